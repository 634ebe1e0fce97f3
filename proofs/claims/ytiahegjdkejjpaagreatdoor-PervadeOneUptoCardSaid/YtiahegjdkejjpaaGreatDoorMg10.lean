/- The walk of fold.whole, whatever comes of it, and that it tells what fold.One tells. Rows of truths put together: plain law. The walks of Packed and Wholes at .. Conditions: as each theorem says. -/
import Derived.Test.YtiahegjdkejjpaaGreatDoorMg09
import Derived.Test.YtiahegjdkejjpaaGreatDoorMg08
import Derived.Test.YtiahegjdkejjpaaGreatDoorMg03
import Derived.Test.YtiahegjdkejjpaaGreatDoorMg00
import Derived.Laws.BitsAllLaws
set_option maxRecDepth 100000
set_option maxHeartbeats 2000000
namespace Go.Proofs.YtiahegjdkejjpaaGreatDoor
open Go Go.RowKit Go.Proofs Fl
def goodB (n:Int):Bool:=decide (-9007199254740992<=n/\n<=9007199254740992)
theorem goodB_iff {n:Int}:goodB n=true↔Good n:=by unfold goodB;rw [decide_eq_true_eq]
def okZ (n:Int):Option Int:=if goodB n then some n else none
def wholeZ (q a b:Int):Option Int :=
 if q=1 then okZ (a+b) else if q=2 then okZ (a - b) else if q=3 then okZ (a*b) else if q=5 then some (max a b) else if q=6 then some (min a b) else none
def OptR (r:Option Int) (w:World) (e:Ending) (w':World):Prop:=e= .returned (.tuple #[.int .i64 (r.getD 0),.bool r.isSome])/\w=w'
theorem fit_all (a:Int) (w:World):Calls Tryz.prog 305 #[.int .i64 a] w fun e w'=>e= .returned (.tuple #[.int .i64 a,.bool (goodB a)])/\w=w':=by
 by_cases h:goodB a=true
 ·rw [h];exact fit_any a (goodB_iff.1 h) w
 ·have h':goodB a=false:=by simpa using h
  rw [h']
  have hn:¬ (-9007199254740992<=a/\a<=9007199254740992):=fun e=>h (goodB_iff.2 e)
  clear h h'
  by_cases hl:-9007199254740992<=a
  ·have hg:¬ a<=9007199254740992:=fun e=>hn ⟨hl,e⟩
   clear hn
   go_enter Tryz.func305,Tryz.ntmps305
   go_wp2
   go_ret2
   exact ⟨by simp,rfl⟩
  ·clear hn
   go_enter Tryz.func305,Tryz.ntmps305
   go_wp2
   go_ret2
   exact ⟨by simp,rfl⟩
theorem pair_all (a:Int) (t:Bool) (w:World):Calls Tryz.prog 304 #[.int .i64 a,.bool t] w fun e w'=>e= .returned (.tuple #[.int .i64 (if t then a else 0),.bool t])/\w=w':=by
 cases t
 all_goals
  go_enter Tryz.func304,Tryz.ntmps304
  go_wp2
  go_ret2
  exact ⟨rfl,rfl⟩
theorem okZ_ret (n:Int):(okZ n).getD 0=(if goodB n then n else 0)/\(okZ n).isSome=goodB n:=by
 unfold okZ
 cases goodB n <;> exact ⟨rfl,rfl⟩
theorem pair_okZ (a:Int) (w:World):Calls Tryz.prog 304 #[.int .i64 a,.bool (goodB a)] w fun e w'=>e= .returned (.tuple #[.int .i64 ((okZ a).getD 0),.bool (okZ a).isSome])/\w=w':=by
 have:=pair_all a (goodB a) w
 rw [(okZ_ret a).1,(okZ_ret a).2]
 exact this
theorem addInt_all (a b:Int) (ha:Good a) (hb:Good b) (w:World):Calls Tryz.prog 277 #[.int .i64 a,.int .i64 b] w (OptR (okZ (a+b)) w):=by
 have HA:=Lib.hid (good_any a ha)
 have HB:=Lib.hid (good_any b hb)
 obtain ⟨h1,h2⟩:=ha
 obtain ⟨h3,h4⟩:=hb
 have HF:=Lib.hid (fit_all (a+b))
 have HP:=Lib.hid (pair_okZ (a+b))
 unfold OptR
 generalize goodB (a+b)=t at *
 generalize okZ (a+b)=r at *
 go_enter Tryz.func277,Tryz.ntmps277
 go_wp2_with fail
 refine (HA.out _).mono ?_
 rintro e w' ⟨rfl,rfl⟩
 go_wp2_with fail
 refine (HB.out _).mono ?_
 rintro e w' ⟨rfl,rfl⟩
 go_wp2_with fail
 refine (HF.out _).mono ?_
 rintro e w' ⟨rfl,rfl⟩
 go_wp2_with fail
 refine (HP.out _).mono ?_
 rintro e w' ⟨rfl,rfl⟩
 go_wp2
 go_ret2
 exact ⟨rfl,rfl⟩
theorem subInt_all (a b:Int) (ha:Good a) (hb:Good b) (w:World):Calls Tryz.prog 278 #[.int .i64 a,.int .i64 b] w (OptR (okZ (a - b)) w):=by
 have HA:=Lib.hid (good_any a ha)
 have HB:=Lib.hid (good_any b hb)
 obtain ⟨h1,h2⟩:=ha
 obtain ⟨h3,h4⟩:=hb
 have HF:=Lib.hid (fit_all (a - b))
 have HP:=Lib.hid (pair_okZ (a - b))
 unfold OptR
 generalize goodB (a - b)=t at *
 generalize okZ (a - b)=r at *
 go_enter Tryz.func278,Tryz.ntmps278
 go_wp2_with fail
 refine (HA.out _).mono ?_
 rintro e w' ⟨rfl,rfl⟩
 go_wp2_with fail
 refine (HB.out _).mono ?_
 rintro e w' ⟨rfl,rfl⟩
 go_wp2_with fail
 refine (HF.out _).mono ?_
 rintro e w' ⟨rfl,rfl⟩
 go_wp2_with fail
 refine (HP.out _).mono ?_
 rintro e w' ⟨rfl,rfl⟩
 go_wp2
 go_ret2
 exact ⟨rfl,rfl⟩
theorem mul_iff (a b:Int) (hb:b≠0):goodB (a*b)=decide ((a.natAbs:Int)<=9007199254740992 / (b.natAbs:Int)):=by
 have hb':0 < b.natAbs:=by omega
 unfold goodB
 rw [decide_eq_decide]
 have e1:(-9007199254740992<=a*b/\a*b<=9007199254740992)↔(a*b).natAbs<=9007199254740992:=by omega
 rw [e1,Int.natAbs_mul]
 have e2:(a.natAbs:Int)<=9007199254740992 / (b.natAbs:Int)↔a.natAbs<=9007199254740992 / b.natAbs:=by
  rw [show (9007199254740992:Int) / (b.natAbs:Int)=((9007199254740992 / b.natAbs:Nat):Int) by rw [Int.natCast_ediv];rfl]
  exact Int.ofNat_le
 rw [e2,Nat.le_div_iff_mul_le hb']
theorem tdn (b:Int) (h:b < 0):wrap64 (-Int.tdiv 9007199254740992 b)=9007199254740992 / -b:=by
 have e:-Int.tdiv 9007199254740992 b=9007199254740992 / -b:=by
  rw [<- Int.tdiv_neg,Int.tdiv_eq_ediv_of_nonneg (by decide)]
 rw [e]
 have h1:0<=(9007199254740992:Int) / -b:=Int.ediv_nonneg (by decide) (by omega)
 have h2:(9007199254740992:Int) / -b<=9007199254740992:=Int.ediv_le_self _ (by decide)
 generalize (9007199254740992:Int) / -b=z at *
 unfold wrap64
 omega
theorem mulInt_all (a b:Int) (ha:Good a) (hb:Good b) (w:World):Calls Tryz.prog 279 #[.int .i64 a,.int .i64 b] w (OptR (okZ (a*b)) w):=by
 have HA:=Lib.hid (good_any a ha)
 have HB:=Lib.hid (good_any b hb)
 obtain ⟨h1,h2⟩:=ha
 obtain ⟨h3,h4⟩:=hb
 by_cases a0:a=0
 ·have HZ:Hid (okZ (a*b)=some 0):=by rw [a0,Int.zero_mul];rfl
  have e0:(a==0)=true:=by simpa using a0
  clear a0
  go_enter Tryz.func279,Tryz.ntmps279
  go_wp2_with fail
  refine (HA.out _).mono ?_
  rintro e w' ⟨rfl,rfl⟩
  go_wp2_with fail
  refine (HB.out _).mono ?_
  rintro e w' ⟨rfl,rfl⟩
  go_wp2
  go_ret2
  exact ⟨by rw [HZ.out];rfl,rfl⟩
 ·have e0:(a==0)=false:=by simpa using a0
  by_cases b0:b=0
  ·have HZ:Hid (okZ (a*b)=some 0):=by rw [b0,Int.mul_zero];rfl
   have e1:(b==0)=true:=by simpa using b0
   clear a0 b0
   go_enter Tryz.func279,Tryz.ntmps279
   go_wp2_with fail
   refine (HA.out _).mono ?_
   rintro e w' ⟨rfl,rfl⟩
   go_wp2_with fail
   refine (HB.out _).mono ?_
   rintro e w' ⟨rfl,rfl⟩
   go_wp2
   go_ret2
   exact ⟨by rw [HZ.out];rfl,rfl⟩
  ·have e1:(b==0)=false:=by simpa using b0
   by_cases sa:a < 0
   ·by_cases sb:b < 0
    ·have pa:0 < -a:=by omega
     have pb:0 < -b:=by omega
     have hd:=tdn b sb
     obtain ⟨z,hz⟩:∃ z,z=(9007199254740992:Int) / -b:=⟨_,rfl⟩
     rw [<- hz] at hd
     have hq:goodB (a*b)=decide (-a<=9007199254740992 / (-b)):=by
      rw [mul_iff a b b0,show (a.natAbs:Int)=-a by omega,show (b.natAbs:Int)=-b by omega]
     by_cases hg:goodB (a*b)=true
     ·have HZ:Hid (okZ (a*b)=some (a*b)):=if_pos hg
      obtain ⟨g1,g2⟩:=goodB_iff.1 hg
      rw [hg] at hq
      have hq2:¬ z < -a:=by have:=of_decide_eq_true hq.symm;omega
      clear hq hg a0 b0 hz
      go_enter Tryz.func279,Tryz.ntmps279
      go_wp2_with fail
      refine (HA.out _).mono ?_
      rintro e w' ⟨rfl,rfl⟩
      go_wp2_with fail
      refine (HB.out _).mono ?_
      rintro e w' ⟨rfl,rfl⟩
      go_wp2
      go_ret2
      exact ⟨by rw [HZ.out];rfl,rfl⟩
     ·have hg':goodB (a*b)=false:=by simpa using hg
      have HZ:Hid (okZ (a*b)=none):=if_neg hg
      rw [hg'] at hq
      have hq2:z < -a:=by have:=of_decide_eq_false hq.symm;omega
      clear hq hg hg' a0 b0 hz
      go_enter Tryz.func279,Tryz.ntmps279
      go_wp2_with fail
      refine (HA.out _).mono ?_
      rintro e w' ⟨rfl,rfl⟩
      go_wp2_with fail
      refine (HB.out _).mono ?_
      rintro e w' ⟨rfl,rfl⟩
      go_wp2
      go_ret2
      exact ⟨by rw [HZ.out];rfl,rfl⟩
    ·have pa:0 < -a:=by omega
     have pb:0 < b:=by omega
     have hq:goodB (a*b)=decide (-a<=9007199254740992 / (b)):=by
      rw [mul_iff a b b0,show (a.natAbs:Int)=-a by omega,show (b.natAbs:Int)=b by omega]
     by_cases hg:goodB (a*b)=true
     ·have HZ:Hid (okZ (a*b)=some (a*b)):=if_pos hg
      obtain ⟨g1,g2⟩:=goodB_iff.1 hg
      rw [hg] at hq
      have hq2:¬ 9007199254740992 / (b) < -a:=by have:=of_decide_eq_true hq.symm;omega
      clear hq hg a0 b0
      go_enter Tryz.func279,Tryz.ntmps279
      go_wp2_with fail
      refine (HA.out _).mono ?_
      rintro e w' ⟨rfl,rfl⟩
      go_wp2_with fail
      refine (HB.out _).mono ?_
      rintro e w' ⟨rfl,rfl⟩
      go_wp2
      go_ret2
      exact ⟨by rw [HZ.out];rfl,rfl⟩
     ·have hg':goodB (a*b)=false:=by simpa using hg
      have HZ:Hid (okZ (a*b)=none):=if_neg hg
      rw [hg'] at hq
      have hq2:9007199254740992 / (b) < -a:=by have:=of_decide_eq_false hq.symm;omega
      clear hq hg hg' a0 b0
      go_enter Tryz.func279,Tryz.ntmps279
      go_wp2_with fail
      refine (HA.out _).mono ?_
      rintro e w' ⟨rfl,rfl⟩
      go_wp2_with fail
      refine (HB.out _).mono ?_
      rintro e w' ⟨rfl,rfl⟩
      go_wp2
      go_ret2
      exact ⟨by rw [HZ.out];rfl,rfl⟩
   ·by_cases sb:b < 0
    ·have pa:0 < a:=by omega
     have pb:0 < -b:=by omega
     have hd:=tdn b sb
     obtain ⟨z,hz⟩:∃ z,z=(9007199254740992:Int) / -b:=⟨_,rfl⟩
     rw [<- hz] at hd
     have hq:goodB (a*b)=decide (a<=9007199254740992 / (-b)):=by
      rw [mul_iff a b b0,show (a.natAbs:Int)=a by omega,show (b.natAbs:Int)=-b by omega]
     by_cases hg:goodB (a*b)=true
     ·have HZ:Hid (okZ (a*b)=some (a*b)):=if_pos hg
      obtain ⟨g1,g2⟩:=goodB_iff.1 hg
      rw [hg] at hq
      have hq2:¬ z < a:=by have:=of_decide_eq_true hq.symm;omega
      clear hq hg a0 b0 hz
      go_enter Tryz.func279,Tryz.ntmps279
      go_wp2_with fail
      refine (HA.out _).mono ?_
      rintro e w' ⟨rfl,rfl⟩
      go_wp2_with fail
      refine (HB.out _).mono ?_
      rintro e w' ⟨rfl,rfl⟩
      go_wp2
      go_ret2
      exact ⟨by rw [HZ.out];rfl,rfl⟩
     ·have hg':goodB (a*b)=false:=by simpa using hg
      have HZ:Hid (okZ (a*b)=none):=if_neg hg
      rw [hg'] at hq
      have hq2:z < a:=by have:=of_decide_eq_false hq.symm;omega
      clear hq hg hg' a0 b0 hz
      go_enter Tryz.func279,Tryz.ntmps279
      go_wp2_with fail
      refine (HA.out _).mono ?_
      rintro e w' ⟨rfl,rfl⟩
      go_wp2_with fail
      refine (HB.out _).mono ?_
      rintro e w' ⟨rfl,rfl⟩
      go_wp2
      go_ret2
      exact ⟨by rw [HZ.out];rfl,rfl⟩
    ·have pa:0 < a:=by omega
     have pb:0 < b:=by omega
     have hq:goodB (a*b)=decide (a<=9007199254740992 / (b)):=by
      rw [mul_iff a b b0,show (a.natAbs:Int)=a by omega,show (b.natAbs:Int)=b by omega]
     by_cases hg:goodB (a*b)=true
     ·have HZ:Hid (okZ (a*b)=some (a*b)):=if_pos hg
      obtain ⟨g1,g2⟩:=goodB_iff.1 hg
      rw [hg] at hq
      have hq2:¬ 9007199254740992 / (b) < a:=by have:=of_decide_eq_true hq.symm;omega
      clear hq hg a0 b0
      go_enter Tryz.func279,Tryz.ntmps279
      go_wp2_with fail
      refine (HA.out _).mono ?_
      rintro e w' ⟨rfl,rfl⟩
      go_wp2_with fail
      refine (HB.out _).mono ?_
      rintro e w' ⟨rfl,rfl⟩
      go_wp2
      go_ret2
      exact ⟨by rw [HZ.out];rfl,rfl⟩
     ·have hg':goodB (a*b)=false:=by simpa using hg
      have HZ:Hid (okZ (a*b)=none):=if_neg hg
      rw [hg'] at hq
      have hq2:9007199254740992 / (b) < a:=by have:=of_decide_eq_false hq.symm;omega
      clear hq hg hg' a0 b0
      go_enter Tryz.func279,Tryz.ntmps279
      go_wp2_with fail
      refine (HA.out _).mono ?_
      rintro e w' ⟨rfl,rfl⟩
      go_wp2_with fail
      refine (HB.out _).mono ?_
      rintro e w' ⟨rfl,rfl⟩
      go_wp2
      go_ret2
      exact ⟨by rw [HZ.out];rfl,rfl⟩
theorem wholeZ_good {q a b c:Int} (ha:Good a) (hb:Good b) (h:wholeZ q a b=some c):Good c:=by
 have hok:∀ n,okZ n=some c->Good c:=fun n h=>by
  unfold okZ at h
  split at h
  ·rename_i hg;injection h with h;subst h;exact goodB_iff.1 hg
  ·cases h
 unfold wholeZ at h
 split at h
 ·exact hok _ h
 split at h
 ·exact hok _ h
 split at h
 ·exact hok _ h
 split at h
 ·injection h with h;subst h;obtain ⟨h1,h2⟩:=ha;obtain ⟨h3,h4⟩:=hb;exact ⟨by omega,by omega⟩
 split at h
 ·injection h with h;subst h;obtain ⟨h1,h2⟩:=ha;obtain ⟨h3,h4⟩:=hb;exact ⟨by omega,by omega⟩
 ·cases h
theorem okZ_some {n c:Int} (h:okZ n=some c):c=n/\Good n:=by
 unfold okZ at h
 split at h
 ·rename_i hg;injection h with h;exact ⟨h.symm,goodB_iff.1 hg⟩
 ·cases h
theorem doneP_fi {n:Int} (h:Good n):doneP (fi n)=(fi n,0):=doneP_tf (tf_fi h)
theorem tid_of (s:Bool) (n:Int) (h:Good n) (hs:n≠0->s=decide (n < 0)):tid s (n.natAbs*2^K)=fi n:=by
 by_cases h0:n=0
 ·subst h0
  rw [fi_zero]
  unfold tid
  rw [if_pos (by rw [Int.natAbs_zero,Nat.zero_mul])]
 ·unfold tid
  rw [if_neg (Nat.mul_ne_zero (by omega) (Nat.ne_of_gt (Nat.two_pow_pos K))),fi_W _ (natAbs_good h),hs h0]
theorem sign_mul (a b:Int) (h0:a*b≠0):(decide (a < 0) ^^ decide (b < 0))=decide (a*b < 0):=by
 rw [Bool.eq_iff_iff]
 have ha0:a≠0:=fun e=>h0 (by rw [e,Int.zero_mul])
 have hb0:b≠0:=fun e=>h0 (by rw [e,Int.mul_zero])
 rcases Int.lt_or_lt_of_ne ha0 with h3 | h3 <;> rcases Int.lt_or_lt_of_ne hb0 with h4 | h4
 ·have:=Int.mul_pos_of_neg_of_neg h3 h4
  simp [h3,h4];omega
 ·have:=Int.mul_neg_of_neg_of_pos h3 h4
  have h5:¬ b < 0:=by omega
  simp [h3,h5];omega
 ·have:=Int.mul_neg_of_pos_of_neg h3 h4
  have h5:¬ a < 0:=by omega
  simp [h5,h4];omega
 ·have:=Int.mul_pos h3 h4
  have h5:¬ a < 0:=by omega
  have h6:¬ b < 0:=by omega
  simp [h5,h6];omega
theorem wholeZ_one (pw:Nat->Nat->Nat×Int){q a b c:Int} (ha:Good a) (hb:Good b) (h:wholeZ q a b=some c):oneP pw q (fi a) (fi b)=(fi c,0):=by
 unfold wholeZ at h
 unfold oneP
 split at h
 ·rename_i e
  obtain ⟨rfl,hg⟩:=okZ_some h
  rw [if_pos e]
  have h1:floatBits .add .f64 (fi a) (fi b)=some (fi (a+b)):=add_fi a b (natAbs_good ha) (natAbs_good hb) (natAbs_good hg)
  have h2:opB .add (fi a) (fi b)=fi (a+b):=by unfold opB;rw [h1];rfl
  rw [h2,doneP_fi hg]
 split at h
 ·rename_i e0 e
  obtain ⟨rfl,hg⟩:=okZ_some h
  rw [if_neg e0,if_pos e]
  have h1:floatBits .sub .f64 (fi a) (fi b)=some (fi (a - b)):=sub_fi a b (natAbs_good ha) (natAbs_good hb) (natAbs_good hg)
  have h2:opB .sub (fi a) (fi b)=fi (a - b):=by unfold opB;rw [h1];rfl
  rw [h2,doneP_fi hg]
 split at h
 ·rename_i e0 e1 e
  obtain ⟨rfl,hg⟩:=okZ_some h
  rw [if_neg e0,if_neg e1,if_pos e]
  have h1:floatBits .mul .f64 (fi a) (fi b)=some (W (decide (a < 0) ^^ decide (b < 0)) ((a*b).natAbs*2^K)):=mul_fi a b (natAbs_good ha) (natAbs_good hb) (natAbs_good hg)
  have h2:opB .mul (fi a) (fi b)=W (decide (a < 0) ^^ decide (b < 0)) ((a*b).natAbs*2^K):=by unfold opB;rw [h1];rfl
  rw [h2,doneP_num _ (rep_fi _ (natAbs_good hg)),tid_of _ _ hg (sign_mul a b)]
 split at h
 ·rename_i e0 e1 e2 e
  injection h with h
  rw [if_neg e0,if_neg e1,if_neg e2,if_neg (by omega),if_pos e,<- h]
  congr 1
  unfold maxP
  rw [cmpF_fi ha hb]
  rcases Int.lt_trichotomy a b with h3 | h3 | h3
  ·rw [cmp_lt h3,if_pos rfl,Int.max_eq_right (by omega)]
  ·rw [h3,cmp_eq,if_neg (by decide),Int.max_self]
  ·rw [cmp_gt h3,if_neg (by decide),Int.max_eq_left (by omega)]
 split at h
 ·rename_i e0 e1 e2 e3 e
  injection h with h
  rw [if_neg e0,if_neg e1,if_neg e2,if_neg (by omega),if_neg e3,if_pos e,<- h]
  congr 1
  unfold minP
  rw [cmpF_fi ha hb]
  rcases Int.lt_trichotomy a b with h3 | h3 | h3
  ·rw [cmp_lt h3,if_neg (by decide),Int.min_eq_left (by omega)]
  ·rw [h3,cmp_eq,if_neg (by decide),Int.min_self]
  ·rw [cmp_gt h3,if_pos rfl,Int.min_eq_right (by omega)]
 ·cases h
def bI (b:Bool):Int:=if b then 1 else 0
theorem flagF_bI (b:Bool):flagF b=fi (bI b):=by cases b;exact fi_zero.symm;exact fi_one.symm
theorem wholes_bits (b:Value) (bn:Int) (s i f c x:Value) (n:Nat) (l:Nat->Int) (w:World) (hn:n<=1000000)
  (hlen:∀ w',Below w.heap.size w w'->Calls Tryz.prog 85 #[vecV 1 b bn s i f c x] w' fun e w2=>e= .returned (.int .i64 n)/\Below w'.heap.size w' w2)
  (hwh:∀ w',Below w.heap.size w w'->∀ j,j < n->Calls Tryz.prog 160 #[vecV 1 b bn s i f c x,.int .i64 (j:Nat)] w' fun e w2=>e= .returned (.tuple #[.int .i64 (l j),.bool true])/\Below w'.heap.size w' w2) :
  Calls Tryz.prog 122 #[vecV 1 b bn s i f c x] w fun e w'=>∃ g,e= .returned (.tuple #[.slice (some ⟨g,0,none⟩) n n,.bool true])/\Own1 w' w.heap.size 2 (.slice (some ⟨g,0,none⟩) n n) ((List.range n).map fun j => .int .i64 (l j))/\Below w.heap.size w w':=by
 have HLN:=Lib.hid hlen
 have HW:=Lib.hid hwh
 have hmk:=run_make_row' (P:=Tryz.prog) 32 2 (.int .i64 0) 8 Tryz.underlying32 info_i64 rfl .i64 .i64 n (by omega) (by omega)
 clear hlen hwh
 go_enter Tryz.func122,Tryz.ntmps122
 go_wp2_with fail
 refine (HLN.out _ (bel1 w _)).mono ?_
 rintro e w1 ⟨rfl,hb1⟩
 have HB1:=Lib.hid (bel_both (bel1 w _) hb1)
 have HX1:=Lib.hid ((boxed_new w 37 1 b bn s i f c x).below hb1)
 clear hb1
 have HGN:Hid (w1.heap.size≠w.heap.size):=by have h1:=HX1.out.lt;show _≠_;omega
 have HF0:=Lib.hid (Fill.made w1 w.heap.size HB1.out.size 2 (fun j => .int .i64 (l j)) (.int .i64 0) n (by unfold maxLen;omega))
 have HBM:=Lib.hid (HB1.out.alloc HB1.out.size (.cells (madeCells #[.int .i64 0] n) 2))
 have HXM:=Lib.hid (HX1.out.below (bel1 w1 (.cells (madeCells #[.int .i64 0] n) 2)))
 go_wp2_with fail
 go_loopw [21] (fun j wr=>∃ m:Nat,m<=n/\j= .int .i64 m/\Fill wr w.heap.size w1.heap.size 2 (fun j => .int .i64 (l j)) (.int .i64 0) n m/\Below w.heap.size w wr/\Boxed wr w.heap.size 1 b bn s i f c x) (fun j _=>n - (intOf j).toNat)
 case atStart=>exact ⟨0,Nat.zero_le _,rfl,HF0.out,HBM.out,HXM.out⟩
 case round =>
  obtain ⟨m,hm,rfl,hf,hbl,hx⟩:=hrel
  have HF:=Lib.hid hf
  have HBL:=Lib.hid hbl
  have HX:=Lib.hid hx
  clear hf hbl
  by_cases hlt:m < n
  ·obtain ⟨h0,h1,h2,h3,h4,h5,h6,h7⟩:=hx
   go_wp2_with fail
   refine (HW.out _ HBL.out m hlt).mono ?_
   rintro e w3 ⟨rfl,hb3⟩
   have HF3:=Lib.hid (HF.out.below hb3)
   have HP3:=Lib.hid (HF3.out.put hlt)
   have HB3:=Lib.hid (HF3.out.bel (bel_both HBL.out hb3) m (.int .i64 (l m)))
   have HX3:=Lib.hid ((HX.out.below hb3).set (p:=⟨w1.heap.size,m,none⟩) HGN.out (.int .i64 (l m)))
   have hc3:=HF3.out.cell hlt
   have hz3:=HF3.out.frozen m
   clear hb3 h0 h1 h2 h3 h4 h5 h6 h7
   generalize l m=z at *
   go_wp2
   go_roundw
   case rel=>exact ⟨m+1,by omega,by go_num,HP3.out,HB3.out,HX3.out⟩
   case measure=>simp [intOf];omega
  ·obtain rfl:m=n:=by omega
   clear hx
   go_wp2
   go_ret2
   exact ⟨_,rfl,HF.out.own,HBL.out⟩
theorem wholes_3 (b:Value) (bn:Int) (s i f c x:Value) (xs:List Value) (w:World) (hr:Reads1 w i xs) (hl:xs.length<=1000000) (h1:∀ u∈xs,u.oneCell'=true) :
  Calls Tryz.prog 122 #[vecV 3 b bn s i f c x] w fun e w'=>∃ v,e= .returned (.tuple #[v,.bool true])/\Own1 w' w.heap.size 2 v xs/\Below w.heap.size w w':=by
 have HCL:=Lib.hid (cl64_any (hr.below (bel1 w (.cells #[.int .i64 3,b,.int .i64 bn,s,i,f,c,x] 37))) (by omega) h1)
 clear hr h1
 go_enter Tryz.func122,Tryz.ntmps122
 go_wp2_with fail
 refine HCL.out.mono ?_
 rintro e w1 ⟨v,rfl,ho,hb⟩
 have HO:=Lib.hid (Own1.lower ho (show w.heap.size<=_ by simp))
 have HB:=Lib.hid (bel_both (bel1 w _) hb)
 clear ho hb
 go_wp2
 go_ret2
 exact ⟨_,rfl,HO.out,HB.out⟩
theorem wholes_4 (b:Value) (bn:Int) (s i f c x:Value) (w:World) :
  Calls Tryz.prog 122 #[vecV 4 b bn s i f c x] w fun e w'=>e= .returned (.tuple #[.slice none 0 0,.bool false])/\Below w.heap.size w w':=by
 go_enter Tryz.func122,Tryz.ntmps122
 go_wp2
 go_ret2
 exact ⟨rfl,bel1 _ _⟩
theorem packed_yes (a:Sl) (bn:Int) (s i f c x:Value) (w:World) :
  Calls Tryz.prog 120 #[vecV 1 (.slice a.1 a.2.1 a.2.2) bn s i f c x] w fun e w'=>e= .returned (.tuple #[.agg #[.slice a.1 a.2.1 a.2.2,.int .i64 bn],.bool true])/\Below w.heap.size w w':=by
 have HK:=Lib.hid (heap_alloc_new (w.alloc (.cells #[.int .i64 1,.slice a.1 a.2.1 a.2.2,.int .i64 bn,s,i,f,c,x] 37)) (.cells #[.slice a.1 a.2.1 a.2.2,.int .i64 bn] 30))
 go_enter Tryz.func120,Tryz.ntmps120
 go_wp2
 refine bodyPost_ret (v := .tuple #[.agg #[.slice a.1 a.2.1 a.2.2,.int .i64 bn],.bool true]) ?_ rfl ⟨rfl,bel2 _ _ _⟩
 exact ret_bits2 (fn:=Tryz.f120) (p:=2) (u:=3) rfl _ _ (w.heap.size+1) (by rfl) (by have h:=HK.out;simpa using h)
theorem own_cell {w:World}{B:Nat}{e:TypeId}{g n c:Nat}{F:Nat->Value} (h:Own1 w B e (.slice (some ⟨g,0,none⟩) n c) ((List.range n).map F)) (j:Nat) (hj:j < n):w.cell? ⟨g,j,none⟩=some (F j):=by
 obtain ⟨a,c2,e1,hc⟩:=reads_at h.reads
 injection e1 with e1 _ _
 obtain ⟨b',o',e3,h3⟩:=hc j hj
 rw [e3] at e1
 injection e1 with e1
 injection e1 with ea eb _
 subst ea;subst eb
 rw [Nat.zero_add] at h3
 exact h3
structure NumX (k:Int) (b:Sl) (bn:Int) (s i f c x:Sl) (n:Nat) (F:Nat->Nat) (w:World):Prop where
 num:NumV (vecW k b bn s i f c x) k n F w
 bits:k=1->∃ l,BitsIn w (.agg #[.slice b.1 b.2.1 b.2.2,.int .i64 bn]) n l/\∀ j,j < n->F j=fi (bI (l j))
 ints:k=3->Reads1 w (.slice i.1 i.2.1 i.2.2) ((List.range n).map fun j => .int .i64 (zOf (F j)))
def WhX (n:Nat) (F:Nat->Nat) (w:World) (e:Ending) (w':World):Prop :=
 ∃ b o c,e= .returned (.tuple #[.slice (some ⟨b,o,none⟩) n c,.bool true])/\(∀ j,j < n->w'.cell? ⟨b,o+j,none⟩=some (.int .i64 (zOf (F j))))/\Below w.heap.size w w'
theorem wholes_any (k:Int) (b:Sl) (bn:Int) (s i f c x:Sl) (n:Nat) (F:Nat->Nat) (w:World) (hk:k≠4) (hn:n<=1000000) (h3:k=3->0 < n) (hN:∀ W,Below w.heap.size w W->NumX k b bn s i f c x n F W) :
  Calls Tryz.prog 122 #[vecW k b bn s i f c x] w (WhX n F w):=by
 have h0:=hN w (Below.refl _ _)
 have hz:∀ j,j < n->∃ z,Good z/\F j=fi z/\zOf (F j)=z:=fun j hj=>by
  obtain ⟨z,hg,e⟩:=h0.num.ints hk j hj
  exact ⟨z,hg,e,by rw [e];exact zOf_of (wholeP_fi hg)⟩
 rcases h0.num.kind with rfl | rfl | rfl | rfl
 ·refine (wholes_bits _ _ _ _ _ _ _ n (fun j=>zOf (F j)) w hn (fun W hw=>(hN W hw).num.len) (fun W hw j hj=>?_)).mono ?_
  ·obtain ⟨z,hg,e,e2⟩:=hz j hj
   rw [e2]
   exact (hN W hw).num.wholeI hk j hj z hg e
  ·rintro e w1 ⟨g,rfl,ho,hb⟩
   exact ⟨g,0,n,rfl,fun j hj=>by
    have h:=own_cell ho j hj
    rw [Nat.zero_add];exact h,hb⟩
 ·refine (wholes_small _ _ _ _ _ _ _ n (fun j=>zOf (F j)) w hn (fun W hw=>(hN W hw).num.len) (fun W hw j hj=>?_)).mono ?_
  ·obtain ⟨z,hg,e,e2⟩:=hz j hj
   rw [e2]
   exact (hN W hw).num.wholeI hk j hj z hg e
  ·rintro e w1 ⟨g,rfl,ho,hb⟩
   exact ⟨g,0,n,rfl,fun j hj=>by
    have h:=own_cell ho j hj
    rw [Nat.zero_add];exact h,hb⟩
 ·refine (wholes_3 _ _ _ _ _ _ _ _ w (h0.ints rfl) (by simpa using hn) (fun u hu=>by
   obtain ⟨j,_,rfl⟩:=List.mem_map.1 hu
   rfl)).mono ?_
  rintro e w1 ⟨v,rfl,ho,hb⟩
  obtain ⟨a,c2,rfl,hc⟩:=reads_at ho.reads
  obtain ⟨b2,o2,rfl,_⟩:=hc 0 (h3 rfl)
  refine ⟨b2,o2,c2,rfl,fun j hj=>?_,hb⟩
  obtain ⟨b',o',e,h⟩:=hc j hj
  injection e with e
  injection e with e1 e2 _
  subst e1;subst e2
  exact h
 ·exact absurd rfl hk
theorem numX_of {k:Int}{b:Sl}{bn:Int}{s i f c x:Sl}{n:Nat}{F:Nat->Nat}{w:World} (h:NumV (vecW k b bn s i f c x) k n F w):NumX k b bn s i f c x n F w:=by
 refine ⟨h,fun hk=>?_,fun hk=>?_⟩
 ·obtain ⟨l,s',e,hb,hf⟩:=h.bitsX hk
  injection e with e
  have e1:=congrArg (fun a:Array Value=>a.getD 1 undef) e
  have e2:=congrArg (fun a:Array Value=>a.getD 2 undef) e
  have e1':Value.slice b.1 b.2.1 b.2.2=s':=e1
  have e2':Value.int .i64 bn= .int .i64 (n:Int):=e2
  rw [e1',e2']
  exact ⟨l,hb,fun j hj=>by rw [hf j hj,flagF_bI]⟩
 ·obtain ⟨L,s',e,hr,hf⟩:=h.intsX hk
  injection e with e
  have e1:=congrArg (fun a:Array Value=>a.getD 4 undef) e
  have e1':Value.slice i.1 i.2.1 i.2.2=s':=e1
  rw [e1']
  have e3:((List.range n).map fun j=>Value.int .i64 (zOf (F j)))=(List.range n).map fun j => .int .i64 (L j):=by
   apply List.map_congr_left
   intro j hj
   obtain ⟨ef,hg⟩:=hf j (List.mem_range.1 hj)
   rw [ef,zOf_of (wholeP_fi hg)]
  rw [e3]
  exact hr
theorem vkind_any (k:Int) (b:Value) (bn:Int) (s i f c x:Value) (w:World) :
  Calls Tryz.prog 66 #[vecV k b bn s i f c x] w fun e w'=>e= .returned (.int .i64 k)/\Below w.heap.size w w':=by
 go_enter Tryz.func66,Tryz.ntmps66
 go_wp2
 go_ret
 exact ⟨rfl,bel1 _ _⟩
theorem least_any {k:Int}{b:Value}{bn:Int}{s i f c x:Value}{n:Nat}{F:Nat->Nat}{w:World} (hn:n<=1000000) (hN:∀ W,Below w.heap.size w W->NumV (vecV k b bn s i f c x) k n F W) :
  Calls Tryz.prog 217 #[vecV k b bn s i f c x] w fun e w'=>e= .returned (.int .i64 (leastF F n:Nat))/\Below w.heap.size w w':=by
 rcases (hN w (Below.refl _ _)).kind with e | e | e | e
 ·exact least_whole k (.inl e) _ bn _ _ _ _ _ n F w (by omega) hN
 ·exact least_whole k (.inr (.inl e)) _ bn _ _ _ _ _ n F w (by omega) hN
 ·exact least_whole k (.inr (.inr e)) _ bn _ _ _ _ _ n F w (by omega) hN
 ·subst e
  exact least_float _ bn _ _ _ _ _ n F w (by omega) hN
theorem tight_any {k:Int}{b:Value}{bn:Int}{s i f c x:Value}{n:Nat}{F:Nat->Nat}{w:World} (hn:n<=1000000) (hN:∀ W,Below w.heap.size w W->NumV (vecV k b bn s i f c x) k n F W) :
  Calls Tryz.prog 202 #[vecV k b bn s i f c x] w fun e w'=>e= .returned (.bool (k==(leastF F n:Nat)))/\Below w.heap.size w w':=by
 have HC:=Lib.hid (fun W=>vkind_any k b bn s i f c x W)
 have HL:=Lib.hid (fun W (hw:Below w.heap.size w W)=>least_any hn (fun W' hw'=>hN W' (bel_both hw hw')))
 clear hN
 go_enter Tryz.func202,Tryz.ntmps202
 go_wp2_with fail
 go_region_with (first
  | (go_at_call 66;go_loud ((refine (HC.out _).mono ?_);rintro e w1 ⟨rfl,hb1⟩);obtain ⟨hc1,hf1⟩:=bcell2 hb1;have hz1:=hb1.size)
  | (go_at_call 217;go_loud ((refine (HL.out _ ?_).mono ?_);exact bel_both (bel1 w _).drew hb1;rintro e w2 ⟨rfl,hb2⟩);obtain ⟨hc2,hf2⟩:=bcell2 hb2;have hz2:=hb2.size))
 all_goals
  go_wp2
  go_ret
  exact ⟨rfl,bel_both (bel_both (bel1 w _).drew hb1) hb2⟩
theorem floats_bad (b o n c:Nat) (x y:Nat->Nat) (hn:n<=1000000) (w:World) (hc:∀ i,i < n->w.cell? ⟨b,o+i,none⟩=some (.float .f64 (x i)))
  (K:Nat) (hK:K < n) (ht:∀ i,i < K->∀ W,Calls Tryz.prog 252 #[.float .f64 (x i)] W fun e w'=>e= .returned (.tuple #[.float .f64 (y i),.bool true])/\W=w')
  (hbad:∀ W,Calls Tryz.prog 252 #[.float .f64 (x K)] W fun e w'=>e= .returned (.tuple #[.float .f64 0,.bool false])/\W=w') :
  Calls Tryz.prog 218 #[.slice (some ⟨b,o,none⟩) n c] w (NoVec w):=by
 have HC:Hid (∀ wr,Below w.heap.size w wr->∀ i,i < n->wr.cell? ⟨b,o+i,none⟩=some (.float .f64 (x i))):=by
  intro wr hb i h
  rw [hb.cell (cell_lt (hc i h))];exact hc i h
 have HT:=Lib.hid ht
 have HBAD:=Lib.hid hbad
 have hmk:=run_make_row' (P:=Tryz.prog) 33 55 (.float .f64 0) 8 Tryz.underlying33 info_f64 rfl .i64 .i64 n (by omega) (by omega)
 clear hc ht hbad
 have hsz:(w.alloc (.cells zcells 37)).heap.size=w.heap.size+1:=by simp
 have HF0:=Lib.hid (Fill.made (w.alloc (.cells zcells 37)) w.heap.size (by simp) 55 (fun j => .float .f64 (y j)) (.float .f64 0) n (by unfold maxLen;omega))
 rw [hsz] at HF0
 have HB0:=Lib.hid (bel2 w (.cells zcells 37) (.cells (madeCells #[.float .f64 0] n) 55))
 have HK0:=Lib.hid (block_up (bel1 (w.alloc (.cells zcells 37)) (.cells (madeCells #[.float .f64 0] n) 55)))
 clear hsz
 go_enter Tryz.func218,Tryz.ntmps218
 go_wp2
 go_loopw [14] (fun j wr=>∃ m:Nat,m<=K/\j= .int .i64 m/\Fill wr w.heap.size (w.heap.size+1) 55 (fun j => .float .f64 (y j)) (.float .f64 0) n m/\Below w.heap.size w wr/\wr.heap[w.heap.size]?=some (.cells zcells 37)) (fun j _=>n - (intOf j).toNat)
 case atStart=>exact ⟨0,Nat.zero_le _,rfl,HF0.out,HB0.out,HK0.out⟩
 case round =>
  obtain ⟨m,hm,rfl,hf,hbl,hk⟩:=hrel
  have HF:=Lib.hid hf
  have HBL:=Lib.hid hbl
  have HK:=Lib.hid hk
  clear hf hbl hk
  have hlt:m < n:=by omega
  have hcell:=HC.out wr HBL.out m hlt
  by_cases hmK:m < K
  ·have hc3:=HF.out.cell hlt
   have hz3:=HF.out.frozen m
   have HP:=Lib.hid (HF.out.put hlt)
   have HB3:=Lib.hid (HF.out.bel HBL.out m (.float .f64 (y m)))
   have HK3:=Lib.hid (show (wr.setCell ⟨w.heap.size+1,m,none⟩ (.float .f64 (y m))).heap[w.heap.size]?=some (.cells zcells 37) by rw [Below.heap_setCell _ _ _ _ (by simp)];exact HK.out)
   have hst:=fun md=>store_float hc3 hz3 .f64 (y m) md
   have HTM:=Lib.hid (HT.out m hmK)
   go_wp2_with fail
   refine (HTM.out _).mono ?_
   rintro e w3 ⟨rfl,rfl⟩
   go_wp2
   go_roundw
   case rel=>exact ⟨m+1,by omega,by go_num,HP.out,HB3.out,HK3.out⟩
   case measure=>simp [intOf];omega
  ·obtain rfl:m=K:=by omega
   obtain ⟨⟨h0,h1,h2,h3,h4,h5,h6,h7⟩,hz⟩:=boxed_of HK.out
   go_wp2_with fail
   refine (HBAD.out _).mono ?_
   rintro e w3 ⟨rfl,rfl⟩
   go_wp2
   refine bodyPost_ret (v := .tuple #[vecV 0 vnil 0 vnil vnil vnil vnil vnil,.bool false]) ?_ rfl ⟨rfl,below_set8 HBL.out (Nat.le_refl _) _ _ _ _ _ _ _ _⟩
   exact ret_vec2 (fn:=Tryz.f218) (p:=2) (u:=3) rfl _ _ w.heap.size (by rfl) (set8_block HK.out _ _ _ _ _ _ _ _)
def okF (b:Nat):Bool:=(doneP b).2==0
def tidF (b:Nat):Nat:=(doneP b).1
theorem ok_cases {b:Nat} (hb:b < 18446744073709551616):(okF b=true/\TF (tidF b)/\(∀ W,Calls Tryz.prog 252 #[.float .f64 b] W fun e w'=>e= .returned (.tuple #[.float .f64 (tidF b),.bool true])/\W=w')/\(∀ W,Calls Tryz.prog 65 #[.float .f64 b] W fun e w'=>e= .returned (.tuple #[.float .f64 (tidF b),.bool true])/\W=w')) \/
  (okF b=false/\(∀ W,Calls Tryz.prog 252 #[.float .f64 b] W fun e w'=>e= .returned (.tuple #[.float .f64 0,.bool false])/\W=w')/\(∀ W,Calls Tryz.prog 65 #[.float .f64 b] W fun e w'=>e= .returned (.tuple #[.float .f64 0,.bool false])/\W=w')):=by
 rcases classify b hb with ⟨s,Z,hz,rfl⟩ | h
 ·left
  have e:=doneP_num s hz
  have e1:tidF (W s Z)=tid s Z:=by unfold tidF;rw [e]
  have e2:okF (W s Z)=true:=by unfold okF;rw [e];rfl
  have e3:TF (tid s Z):=by
   rcases doneP_cases hb with ⟨c,hc,e4⟩ | e4
   ·rw [e] at e4
    injection e4 with e4 _
    rw [e4];exact hc
   ·rw [e] at e4
    injection e4 with _ e5
    cases e5
  rw [e1]
  exact ⟨e2,e3,fun W=>ntidy_num s hz W,fun W=>rtidy_num s hz W⟩
 ·right
  have e:doneP b=(0,24):=by rcases h with ⟨s,rfl⟩ | h;exact doneP_inf s;exact doneP_nan h
  exact ⟨by unfold okF;rw [e];rfl,fun W=>ntidy_bad h W,fun W=>rtidy_bad h W⟩
def FlsOut (n:Nat) (F:Nat->Nat) (w:World) (e:Ending) (w':World):Prop :=
 ((∀ j,j < n->okF (F j)=true)/\∃ a m c,e= .returned (.tuple #[vecV 4 vnil 0 vnil vnil (.slice a m c) vnil vnil,.bool true])/\Own1 w' w.heap.size 55 (.slice a m c) ((List.range n).map fun j => .float .f64 (tidF (F j)))/\Below w.heap.size w w') \/
 ((∃ j,j < n/\okF (F j)=false)/\NoVec w e w')
theorem floats_all {w:World}{v:Value}{n:Nat}{F:Nat->Nat} (hr:Reads1 w v ((List.range n).map fun j => .float .f64 (F j))) (hn:n<=1000000) (hF:∀ j,j < n->F j < 18446744073709551616) :
  Calls Tryz.prog 218 #[v] w (FlsOut n F w):=by
 obtain ⟨a,c,rfl,hc⟩:=reads_at hr
 by_cases h0:n=0
 ·subst h0
  refine (floats_any hr hn (fun j hj=>absurd hj (Nat.not_lt_zero _))).mono ?_
  rintro e w' ⟨a2,m,c2,rfl,ho,hb⟩
  exact .inl ⟨fun j hj=>absurd hj (Nat.not_lt_zero _),a2,m,c2,rfl,ho,hb⟩
 ·obtain ⟨b,o,rfl,_⟩:=hc 0 (by omega)
  have hcell:∀ i,i < n->w.cell? ⟨b,o+i,none⟩=some (.float .f64 (F i)):=fun i hi=>reads_cell hr i hi
  have hyes:∀ j,j < n->okF (F j)=true->∀ W,Calls Tryz.prog 252 #[.float .f64 (F j)] W fun e w'=>e= .returned (.tuple #[.float .f64 (tidF (F j)),.bool true])/\W=w':=fun j hj ho=>by
   rcases ok_cases (hF j hj) with h | h
   ·exact h.2.2.1
   ·rw [h.1] at ho;cases ho
  rcases first_bad (fun j=>okF (F j)) n with hall | ⟨K,hK,hbad,hlow⟩
  ·refine (floats_walk b o n c F (fun j=>tidF (F j)) hn w hcell (fun i hi=>hyes i hi (hall i hi))).mono ?_
   rintro e w' ⟨u,rfl,ho,hb⟩
   obtain ⟨a2,m,c2,rfl⟩:∃ a m c',u= .slice a m c':=by obtain ⟨a,c,e⟩:=ho.reads.len;exact ⟨a,_,c,e⟩
   exact .inl ⟨hall,a2,m,c2,rfl,ho,hb⟩
  ·refine (floats_bad b o n c F (fun j=>tidF (F j)) hn w hcell K hK (fun i hi=>hyes i (by omega) (hlow i hi)) ?_).mono fun e w' h => .inr ⟨⟨K,hK,hbad⟩,h⟩
   rcases ok_cases (hF K hK) with h | h
   ·rw [h.1] at hbad;cases hbad
   ·exact h.2.1
theorem NumV.kindEq {k kd:Int}{b:Sl}{bn:Int}{s i f c x:Sl}{n:Nat}{F:Nat->Nat}{w:World} (h:NumV (vecW k b bn s i f c x) kd n F w):k=kd:=by
 obtain ⟨_,_,_,_,_,_,_,e⟩:=h.shape
 injection e with e
 have e1:=congrArg (fun a:Array Value=>a.getD 0 undef) e
 have e2:Value.int .i64 k= .int .i64 kd:=e1
 injection e2
end Go.Proofs.YtiahegjdkejjpaaGreatDoor
namespace Go.Proofs.YtiahegjdkejjpaaGreatDoor.Fl
open Ieee Go
def wd (s:Bool) (E F:Nat):Nat:=s.toNat*9223372036854775808+E*4503599627370496+F
theorem wd_lt (s:Bool){E F:Nat} (hE:E < 2048) (hF:F < 4503599627370496):wd s E F < 18446744073709551616:=by
 unfold wd;cases s <;> simp <;> omega
theorem read_one:double.read 4607182418800017408= .number false 4503599627370496 (-52):=by decide
end Go.Proofs.YtiahegjdkejjpaaGreatDoor.Fl
