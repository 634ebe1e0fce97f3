/- The walk of fold.whole, whatever comes of it, and that it tells what fold.One tells. The walk of fold.wholes, whatever comes of .. Conditions: as each theorem says. -/
import Derived.Test.YtakgmnafbjdccaaGreatDoorMg11
set_option maxRecDepth 100000
set_option maxHeartbeats 4000000
namespace Go.Proofs.YtakgmnafbjdccaaGreatDoor
open Go Go.RowKit Go.Proofs Fl
def goodB (n:Int):Bool:=decide (-9007199254740992<=n/\n<=9007199254740992)
theorem goodB_iff {n:Int}:goodB n=true↔Good n:=by unfold goodB;rw [decide_eq_true_eq]
def okZ (n:Int):Option Int:=if goodB n then some n else none
def wholeZ (q a b:Int):Option Int :=
 if q=1 then okZ (a+b) else if q=2 then okZ (a - b) else if q=3 then okZ (a*b) else if q=5 then some (max a b) else if q=6 then some (min a b) else none
def OptR (r:Option Int) (w:World) (e:Ending) (w':World):Prop:=e= .returned (.tuple #[.int .i64 (r.getD 0),.bool r.isSome])/\w=w'
theorem fit_all (a:Int) (w:World):Calls Tryz.prog 276 #[.int .i64 a] w fun e w'=>e= .returned (.tuple #[.int .i64 a,.bool (goodB a)])/\w=w':=by
 by_cases h:goodB a=true
 ·rw [h];exact fit_any a (goodB_iff.1 h) w
 ·have h':goodB a=false:=by simpa using h
  rw [h']
  have hn:¬ (-9007199254740992<=a/\a<=9007199254740992):=fun e=>h (goodB_iff.2 e)
  clear h h'
  by_cases hl:-9007199254740992<=a
  ·have hg:¬ a<=9007199254740992:=fun e=>hn ⟨hl,e⟩
   clear hn
   go_enter Tryz.func276,Tryz.ntmps276
   go_wp2
   go_ret2
   exact ⟨by simp,rfl⟩
  ·clear hn
   go_enter Tryz.func276,Tryz.ntmps276
   go_wp2
   go_ret2
   exact ⟨by simp,rfl⟩
theorem pair_all (a:Int) (t:Bool) (w:World):Calls Tryz.prog 275 #[.int .i64 a,.bool t] w fun e w'=>e= .returned (.tuple #[.int .i64 (if t then a else 0),.bool t])/\w=w':=by
 cases t
 all_goals
  go_enter Tryz.func275,Tryz.ntmps275
  go_wp2
  go_ret2
  exact ⟨rfl,rfl⟩
theorem okZ_ret (n:Int):(okZ n).getD 0=(if goodB n then n else 0)/\(okZ n).isSome=goodB n:=by
 unfold okZ
 cases goodB n <;> exact ⟨rfl,rfl⟩
theorem pair_okZ (a:Int) (w:World):Calls Tryz.prog 275 #[.int .i64 a,.bool (goodB a)] w fun e w'=>e= .returned (.tuple #[.int .i64 ((okZ a).getD 0),.bool (okZ a).isSome])/\w=w':=by
 have:=pair_all a (goodB a) w
 rw [(okZ_ret a).1,(okZ_ret a).2]
 exact this
theorem addInt_all (a b:Int) (ha:Good a) (hb:Good b) (w:World):Calls Tryz.prog 247 #[.int .i64 a,.int .i64 b] w (OptR (okZ (a+b)) w):=by
 have HA:=Lib.hid (good_any a ha)
 have HB:=Lib.hid (good_any b hb)
 obtain ⟨h1,h2⟩:=ha
 obtain ⟨h3,h4⟩:=hb
 have HF:=Lib.hid (fit_all (a+b))
 have HP:=Lib.hid (pair_okZ (a+b))
 unfold OptR
 generalize goodB (a+b)=t at *
 generalize okZ (a+b)=r at *
 go_enter Tryz.func247,Tryz.ntmps247
 go_wp2_with fail
 refine (HA.out _).mono ?_
 rintro e w' ⟨rfl,rfl⟩
 go_wp2_with fail
 refine (HB.out _).mono ?_
 rintro e w' ⟨rfl,rfl⟩
 go_wp2_with fail
 refine (HF.out _).mono ?_
 rintro e w' ⟨rfl,rfl⟩
 go_wp2_with fail
 refine (HP.out _).mono ?_
 rintro e w' ⟨rfl,rfl⟩
 go_wp2
 go_ret2
 exact ⟨rfl,rfl⟩
theorem subInt_all (a b:Int) (ha:Good a) (hb:Good b) (w:World):Calls Tryz.prog 248 #[.int .i64 a,.int .i64 b] w (OptR (okZ (a - b)) w):=by
 have HA:=Lib.hid (good_any a ha)
 have HB:=Lib.hid (good_any b hb)
 obtain ⟨h1,h2⟩:=ha
 obtain ⟨h3,h4⟩:=hb
 have HF:=Lib.hid (fit_all (a - b))
 have HP:=Lib.hid (pair_okZ (a - b))
 unfold OptR
 generalize goodB (a - b)=t at *
 generalize okZ (a - b)=r at *
 go_enter Tryz.func248,Tryz.ntmps248
 go_wp2_with fail
 refine (HA.out _).mono ?_
 rintro e w' ⟨rfl,rfl⟩
 go_wp2_with fail
 refine (HB.out _).mono ?_
 rintro e w' ⟨rfl,rfl⟩
 go_wp2_with fail
 refine (HF.out _).mono ?_
 rintro e w' ⟨rfl,rfl⟩
 go_wp2_with fail
 refine (HP.out _).mono ?_
 rintro e w' ⟨rfl,rfl⟩
 go_wp2
 go_ret2
 exact ⟨rfl,rfl⟩
theorem mul_iff (a b:Int) (hb:b≠0):goodB (a*b)=decide ((a.natAbs:Int)<=9007199254740992 / (b.natAbs:Int)):=by
 have hb':0 < b.natAbs:=by omega
 unfold goodB
 rw [decide_eq_decide]
 have e1:(-9007199254740992<=a*b/\a*b<=9007199254740992)↔(a*b).natAbs<=9007199254740992:=by omega
 rw [e1,Int.natAbs_mul]
 have e2:(a.natAbs:Int)<=9007199254740992 / (b.natAbs:Int)↔a.natAbs<=9007199254740992 / b.natAbs:=by
  rw [show (9007199254740992:Int) / (b.natAbs:Int)=((9007199254740992 / b.natAbs:Nat):Int) by rw [Int.natCast_ediv];rfl]
  exact Int.ofNat_le
 rw [e2,Nat.le_div_iff_mul_le hb']
theorem tdn (b:Int) (h:b < 0):wrap64 (-Int.tdiv 9007199254740992 b)=9007199254740992 / -b:=by
 have e:-Int.tdiv 9007199254740992 b=9007199254740992 / -b:=by
  rw [<- Int.tdiv_neg,Int.tdiv_eq_ediv_of_nonneg (by decide)]
 rw [e]
 have h1:0<=(9007199254740992:Int) / -b:=Int.ediv_nonneg (by decide) (by omega)
 have h2:(9007199254740992:Int) / -b<=9007199254740992:=Int.ediv_le_self _ (by decide)
 generalize (9007199254740992:Int) / -b=z at *
 unfold wrap64
 omega
theorem mulInt_all (a b:Int) (ha:Good a) (hb:Good b) (w:World):Calls Tryz.prog 249 #[.int .i64 a,.int .i64 b] w (OptR (okZ (a*b)) w):=by
 have HA:=Lib.hid (good_any a ha)
 have HB:=Lib.hid (good_any b hb)
 obtain ⟨h1,h2⟩:=ha
 obtain ⟨h3,h4⟩:=hb
 by_cases a0:a=0
 ·have HZ:Hid (okZ (a*b)=some 0):=by rw [a0,Int.zero_mul];rfl
  have e0:(a==0)=true:=by simpa using a0
  clear a0
  go_enter Tryz.func249,Tryz.ntmps249
  go_wp2_with fail
  refine (HA.out _).mono ?_
  rintro e w' ⟨rfl,rfl⟩
  go_wp2_with fail
  refine (HB.out _).mono ?_
  rintro e w' ⟨rfl,rfl⟩
  go_wp2
  go_ret2
  exact ⟨by rw [HZ.out];rfl,rfl⟩
 ·have e0:(a==0)=false:=by simpa using a0
  by_cases b0:b=0
  ·have HZ:Hid (okZ (a*b)=some 0):=by rw [b0,Int.mul_zero];rfl
   have e1:(b==0)=true:=by simpa using b0
   clear a0 b0
   go_enter Tryz.func249,Tryz.ntmps249
   go_wp2_with fail
   refine (HA.out _).mono ?_
   rintro e w' ⟨rfl,rfl⟩
   go_wp2_with fail
   refine (HB.out _).mono ?_
   rintro e w' ⟨rfl,rfl⟩
   go_wp2
   go_ret2
   exact ⟨by rw [HZ.out];rfl,rfl⟩
  ·have e1:(b==0)=false:=by simpa using b0
   by_cases sa:a < 0
   ·by_cases sb:b < 0
    ·have pa:0 < -a:=by omega
     have pb:0 < -b:=by omega
     have hd:=tdn b sb
     obtain ⟨z,hz⟩:∃ z,z=(9007199254740992:Int) / -b:=⟨_,rfl⟩
     rw [<- hz] at hd
     have hq:goodB (a*b)=decide (-a<=9007199254740992 / (-b)):=by
      rw [mul_iff a b b0,show (a.natAbs:Int)=-a by omega,show (b.natAbs:Int)=-b by omega]
     by_cases hg:goodB (a*b)=true
     ·have HZ:Hid (okZ (a*b)=some (a*b)):=if_pos hg
      obtain ⟨g1,g2⟩:=goodB_iff.1 hg
      rw [hg] at hq
      have hq2:¬ z < -a:=by have:=of_decide_eq_true hq.symm;omega
      clear hq hg a0 b0 hz
      go_enter Tryz.func249,Tryz.ntmps249
      go_wp2_with fail
      refine (HA.out _).mono ?_
      rintro e w' ⟨rfl,rfl⟩
      go_wp2_with fail
      refine (HB.out _).mono ?_
      rintro e w' ⟨rfl,rfl⟩
      go_wp2
      go_ret2
      exact ⟨by rw [HZ.out];rfl,rfl⟩
     ·have hg':goodB (a*b)=false:=by simpa using hg
      have HZ:Hid (okZ (a*b)=none):=if_neg hg
      rw [hg'] at hq
      have hq2:z < -a:=by have:=of_decide_eq_false hq.symm;omega
      clear hq hg hg' a0 b0 hz
      go_enter Tryz.func249,Tryz.ntmps249
      go_wp2_with fail
      refine (HA.out _).mono ?_
      rintro e w' ⟨rfl,rfl⟩
      go_wp2_with fail
      refine (HB.out _).mono ?_
      rintro e w' ⟨rfl,rfl⟩
      go_wp2
      go_ret2
      exact ⟨by rw [HZ.out];rfl,rfl⟩
    ·have pa:0 < -a:=by omega
     have pb:0 < b:=by omega
     have hq:goodB (a*b)=decide (-a<=9007199254740992 / (b)):=by
      rw [mul_iff a b b0,show (a.natAbs:Int)=-a by omega,show (b.natAbs:Int)=b by omega]
     by_cases hg:goodB (a*b)=true
     ·have HZ:Hid (okZ (a*b)=some (a*b)):=if_pos hg
      obtain ⟨g1,g2⟩:=goodB_iff.1 hg
      rw [hg] at hq
      have hq2:¬ 9007199254740992 / (b) < -a:=by have:=of_decide_eq_true hq.symm;omega
      clear hq hg a0 b0
      go_enter Tryz.func249,Tryz.ntmps249
      go_wp2_with fail
      refine (HA.out _).mono ?_
      rintro e w' ⟨rfl,rfl⟩
      go_wp2_with fail
      refine (HB.out _).mono ?_
      rintro e w' ⟨rfl,rfl⟩
      go_wp2
      go_ret2
      exact ⟨by rw [HZ.out];rfl,rfl⟩
     ·have hg':goodB (a*b)=false:=by simpa using hg
      have HZ:Hid (okZ (a*b)=none):=if_neg hg
      rw [hg'] at hq
      have hq2:9007199254740992 / (b) < -a:=by have:=of_decide_eq_false hq.symm;omega
      clear hq hg hg' a0 b0
      go_enter Tryz.func249,Tryz.ntmps249
      go_wp2_with fail
      refine (HA.out _).mono ?_
      rintro e w' ⟨rfl,rfl⟩
      go_wp2_with fail
      refine (HB.out _).mono ?_
      rintro e w' ⟨rfl,rfl⟩
      go_wp2
      go_ret2
      exact ⟨by rw [HZ.out];rfl,rfl⟩
   ·by_cases sb:b < 0
    ·have pa:0 < a:=by omega
     have pb:0 < -b:=by omega
     have hd:=tdn b sb
     obtain ⟨z,hz⟩:∃ z,z=(9007199254740992:Int) / -b:=⟨_,rfl⟩
     rw [<- hz] at hd
     have hq:goodB (a*b)=decide (a<=9007199254740992 / (-b)):=by
      rw [mul_iff a b b0,show (a.natAbs:Int)=a by omega,show (b.natAbs:Int)=-b by omega]
     by_cases hg:goodB (a*b)=true
     ·have HZ:Hid (okZ (a*b)=some (a*b)):=if_pos hg
      obtain ⟨g1,g2⟩:=goodB_iff.1 hg
      rw [hg] at hq
      have hq2:¬ z < a:=by have:=of_decide_eq_true hq.symm;omega
      clear hq hg a0 b0 hz
      go_enter Tryz.func249,Tryz.ntmps249
      go_wp2_with fail
      refine (HA.out _).mono ?_
      rintro e w' ⟨rfl,rfl⟩
      go_wp2_with fail
      refine (HB.out _).mono ?_
      rintro e w' ⟨rfl,rfl⟩
      go_wp2
      go_ret2
      exact ⟨by rw [HZ.out];rfl,rfl⟩
     ·have hg':goodB (a*b)=false:=by simpa using hg
      have HZ:Hid (okZ (a*b)=none):=if_neg hg
      rw [hg'] at hq
      have hq2:z < a:=by have:=of_decide_eq_false hq.symm;omega
      clear hq hg hg' a0 b0 hz
      go_enter Tryz.func249,Tryz.ntmps249
      go_wp2_with fail
      refine (HA.out _).mono ?_
      rintro e w' ⟨rfl,rfl⟩
      go_wp2_with fail
      refine (HB.out _).mono ?_
      rintro e w' ⟨rfl,rfl⟩
      go_wp2
      go_ret2
      exact ⟨by rw [HZ.out];rfl,rfl⟩
    ·have pa:0 < a:=by omega
     have pb:0 < b:=by omega
     have hq:goodB (a*b)=decide (a<=9007199254740992 / (b)):=by
      rw [mul_iff a b b0,show (a.natAbs:Int)=a by omega,show (b.natAbs:Int)=b by omega]
     by_cases hg:goodB (a*b)=true
     ·have HZ:Hid (okZ (a*b)=some (a*b)):=if_pos hg
      obtain ⟨g1,g2⟩:=goodB_iff.1 hg
      rw [hg] at hq
      have hq2:¬ 9007199254740992 / (b) < a:=by have:=of_decide_eq_true hq.symm;omega
      clear hq hg a0 b0
      go_enter Tryz.func249,Tryz.ntmps249
      go_wp2_with fail
      refine (HA.out _).mono ?_
      rintro e w' ⟨rfl,rfl⟩
      go_wp2_with fail
      refine (HB.out _).mono ?_
      rintro e w' ⟨rfl,rfl⟩
      go_wp2
      go_ret2
      exact ⟨by rw [HZ.out];rfl,rfl⟩
     ·have hg':goodB (a*b)=false:=by simpa using hg
      have HZ:Hid (okZ (a*b)=none):=if_neg hg
      rw [hg'] at hq
      have hq2:9007199254740992 / (b) < a:=by have:=of_decide_eq_false hq.symm;omega
      clear hq hg hg' a0 b0
      go_enter Tryz.func249,Tryz.ntmps249
      go_wp2_with fail
      refine (HA.out _).mono ?_
      rintro e w' ⟨rfl,rfl⟩
      go_wp2_with fail
      refine (HB.out _).mono ?_
      rintro e w' ⟨rfl,rfl⟩
      go_wp2
      go_ret2
      exact ⟨by rw [HZ.out];rfl,rfl⟩
theorem whole_all (q a b:Int) (ha:Good a) (hb:Good b) (w:World):Calls Tryz.prog 216 #[.int .i64 q,.int .i64 a,.int .i64 b] w (OptR (wholeZ q a b) w):=by
 by_cases h1:q=1
 ·subst h1
  have HC:=Lib.hid (addInt_all a b ha hb)
  show Calls _ _ _ _ (OptR (okZ (a+b)) w)
  generalize okZ (a+b)=r at *
  clear ha hb
  unfold OptR at *
  go_enter Tryz.func216,Tryz.ntmps216
  go_wp2_with fail
  refine (HC.out _).mono ?_
  rintro e w' ⟨rfl,rfl⟩
  go_wp2
  go_ret2
  exact ⟨rfl,rfl⟩
 by_cases h2:q=2
 ·subst h2
  have HC:=Lib.hid (subInt_all a b ha hb)
  show Calls _ _ _ _ (OptR (okZ (a - b)) w)
  generalize okZ (a - b)=r at *
  clear ha hb
  unfold OptR at *
  go_enter Tryz.func216,Tryz.ntmps216
  go_wp2_with fail
  refine (HC.out _).mono ?_
  rintro e w' ⟨rfl,rfl⟩
  go_wp2
  go_ret2
  exact ⟨rfl,rfl⟩
 by_cases h3:q=3
 ·subst h3
  have HC:=Lib.hid (mulInt_all a b ha hb)
  show Calls _ _ _ _ (OptR (okZ (a*b)) w)
  generalize okZ (a*b)=r at *
  clear ha hb
  unfold OptR at *
  go_enter Tryz.func216,Tryz.ntmps216
  go_wp2_with fail
  refine (HC.out _).mono ?_
  rintro e w' ⟨rfl,rfl⟩
  go_wp2
  go_ret2
  exact ⟨rfl,rfl⟩
 by_cases h5:q=5
 ·subst h5
  show Calls _ _ _ _ (OptR (some (max a b)) w)
  unfold OptR
  go_enter Tryz.func216,Tryz.ntmps216
  go_wp2
  go_ret2
  exact ⟨rfl,rfl⟩
 by_cases h6:q=6
 ·subst h6
  show Calls _ _ _ _ (OptR (some (min a b)) w)
  unfold OptR
  go_enter Tryz.func216,Tryz.ntmps216
  go_wp2
  go_ret2
  exact ⟨rfl,rfl⟩
 have hz:wholeZ q a b=none:=by unfold wholeZ;rw [if_neg h1,if_neg h2,if_neg h3,if_neg h5,if_neg h6]
 rw [hz]
 have e1:(q==1)=false:=by simpa using h1
 have e2:(q==2)=false:=by simpa using h2
 have e3:(q==3)=false:=by simpa using h3
 have e5:(q==5)=false:=by simpa using h5
 have e6:(q==6)=false:=by simpa using h6
 unfold OptR
 clear h1 h2 h3 h5 h6 hz
 go_enter Tryz.func216,Tryz.ntmps216
 go_wp2
 go_ret2
 exact ⟨rfl,rfl⟩
theorem wholeZ_good {q a b c:Int} (ha:Good a) (hb:Good b) (h:wholeZ q a b=some c):Good c:=by
 have hok:∀ n,okZ n=some c->Good c:=fun n h=>by
  unfold okZ at h
  split at h
  ·rename_i hg;injection h with h;subst h;exact goodB_iff.1 hg
  ·cases h
 unfold wholeZ at h
 split at h
 ·exact hok _ h
 split at h
 ·exact hok _ h
 split at h
 ·exact hok _ h
 split at h
 ·injection h with h;subst h;obtain ⟨h1,h2⟩:=ha;obtain ⟨h3,h4⟩:=hb;exact ⟨by omega,by omega⟩
 split at h
 ·injection h with h;subst h;obtain ⟨h1,h2⟩:=ha;obtain ⟨h3,h4⟩:=hb;exact ⟨by omega,by omega⟩
 ·cases h
theorem okZ_some {n c:Int} (h:okZ n=some c):c=n/\Good n:=by
 unfold okZ at h
 split at h
 ·rename_i hg;injection h with h;exact ⟨h.symm,goodB_iff.1 hg⟩
 ·cases h
theorem doneP_fi {n:Int} (h:Good n):doneP (fi n)=(fi n,0):=doneP_tf (tf_fi h)
theorem tid_of (s:Bool) (n:Int) (h:Good n) (hs:n≠0->s=decide (n < 0)):tid s (n.natAbs*2^K)=fi n:=by
 by_cases h0:n=0
 ·subst h0
  rw [fi_zero]
  unfold tid
  rw [if_pos (by rw [Int.natAbs_zero,Nat.zero_mul])]
 ·unfold tid
  rw [if_neg (Nat.mul_ne_zero (by omega) (Nat.ne_of_gt (Nat.two_pow_pos K))),fi_W _ (natAbs_good h),hs h0]
theorem sign_mul (a b:Int) (h0:a*b≠0):(decide (a < 0) ^^ decide (b < 0))=decide (a*b < 0):=by
 rw [Bool.eq_iff_iff]
 have ha0:a≠0:=fun e=>h0 (by rw [e,Int.zero_mul])
 have hb0:b≠0:=fun e=>h0 (by rw [e,Int.mul_zero])
 rcases Int.lt_or_lt_of_ne ha0 with h3 | h3 <;> rcases Int.lt_or_lt_of_ne hb0 with h4 | h4
 ·have:=Int.mul_pos_of_neg_of_neg h3 h4
  simp [h3,h4];omega
 ·have:=Int.mul_neg_of_neg_of_pos h3 h4
  have h5:¬ b < 0:=by omega
  simp [h3,h5];omega
 ·have:=Int.mul_neg_of_pos_of_neg h3 h4
  have h5:¬ a < 0:=by omega
  simp [h5,h4];omega
 ·have:=Int.mul_pos h3 h4
  have h5:¬ a < 0:=by omega
  have h6:¬ b < 0:=by omega
  simp [h5,h6];omega
theorem wholeZ_one (pw:Nat->Nat->Nat×Int){q a b c:Int} (ha:Good a) (hb:Good b) (h:wholeZ q a b=some c):oneP pw q (fi a) (fi b)=(fi c,0):=by
 unfold wholeZ at h
 unfold oneP
 split at h
 ·rename_i e
  obtain ⟨rfl,hg⟩:=okZ_some h
  rw [if_pos e]
  have h1:floatBits .add .f64 (fi a) (fi b)=some (fi (a+b)):=add_fi a b (natAbs_good ha) (natAbs_good hb) (natAbs_good hg)
  have h2:opB .add (fi a) (fi b)=fi (a+b):=by unfold opB;rw [h1];rfl
  rw [h2,doneP_fi hg]
 split at h
 ·rename_i e0 e
  obtain ⟨rfl,hg⟩:=okZ_some h
  rw [if_neg e0,if_pos e]
  have h1:floatBits .sub .f64 (fi a) (fi b)=some (fi (a - b)):=sub_fi a b (natAbs_good ha) (natAbs_good hb) (natAbs_good hg)
  have h2:opB .sub (fi a) (fi b)=fi (a - b):=by unfold opB;rw [h1];rfl
  rw [h2,doneP_fi hg]
 split at h
 ·rename_i e0 e1 e
  obtain ⟨rfl,hg⟩:=okZ_some h
  rw [if_neg e0,if_neg e1,if_pos e]
  have h1:floatBits .mul .f64 (fi a) (fi b)=some (W (decide (a < 0) ^^ decide (b < 0)) ((a*b).natAbs*2^K)):=mul_fi a b (natAbs_good ha) (natAbs_good hb) (natAbs_good hg)
  have h2:opB .mul (fi a) (fi b)=W (decide (a < 0) ^^ decide (b < 0)) ((a*b).natAbs*2^K):=by unfold opB;rw [h1];rfl
  rw [h2,doneP_num _ (rep_fi _ (natAbs_good hg)),tid_of _ _ hg (sign_mul a b)]
 split at h
 ·rename_i e0 e1 e2 e
  injection h with h
  rw [if_neg e0,if_neg e1,if_neg e2,if_neg (by omega),if_pos e,<- h]
  congr 1
  unfold maxP
  rw [cmpF_fi ha hb]
  rcases Int.lt_trichotomy a b with h3 | h3 | h3
  ·rw [cmp_lt h3,if_pos rfl,Int.max_eq_right (by omega)]
  ·rw [h3,cmp_eq,if_neg (by decide),Int.max_self]
  ·rw [cmp_gt h3,if_neg (by decide),Int.max_eq_left (by omega)]
 split at h
 ·rename_i e0 e1 e2 e3 e
  injection h with h
  rw [if_neg e0,if_neg e1,if_neg e2,if_neg (by omega),if_neg e3,if_pos e,<- h]
  congr 1
  unfold minP
  rw [cmpF_fi ha hb]
  rcases Int.lt_trichotomy a b with h3 | h3 | h3
  ·rw [cmp_lt h3,if_neg (by decide),Int.min_eq_left (by omega)]
  ·rw [h3,cmp_eq,if_neg (by decide),Int.min_self]
  ·rw [cmp_gt h3,if_pos rfl,Int.min_eq_right (by omega)]
 ·cases h
def FwOut (H:Nat->Prop) (w:World) (g:Nat->Nat->Nat×Int) (F:Nat->Nat) (n inner N:Nat) (e:Ending) (w':World):Prop :=
 ((∀ c,c < N->∃ y,rowsR g F n inner c=some y)/\Vec2R H w (fun u W=>NumV u (leastF (outF g F n inner) N:Nat) N (outF g F n inner) W) e w')\/NoVec w e w'
def outZ (g:Nat->Nat->Nat×Int) (F:Nat->Nat) (n inner c:Nat):Int->Prop:=fun z=>rowsR g F n inner c=some (fi z)/\Good z
noncomputable def outI (g:Nat->Nat->Nat×Int) (F:Nat->Nat) (n inner c:Nat):Int:=zOf (outF g F n inner c)
theorem outI_of {g:Nat->Nat->Nat×Int}{F:Nat->Nat}{n inner c:Nat}{z:Int} (h:outZ g F n inner c z):outI g F n inner c=z/\outF g F n inner c=fi z:=by
 have e:=outF_some h.1
 refine ⟨?_,e⟩
 unfold outI
 rw [e,zOf_of (wholeP_fi h.2)]
theorem outI_succ {g:Nat->Nat->Nat×Int}{F:Nat->Nat}{n inner c:Nat}{z:Int} (h:outZ g F n inner c z):((List.range c).map fun j=>Value.int .i64 (outI g F n inner j))++[.int .i64 z]=(List.range (c+1)).map fun j => .int .i64 (outI g F n inner j):=by
 rw [List.range_succ,List.map_append]
 simp [(outI_of h).1]
theorem fwholes_any (pw:Nat->Nat->Nat×Int) (H:Nat->Prop) (q:Int) (b o0 c T:Nat) (outer n inner:Nat) (L:Nat->Int) (F:Nat->Nat) (w:World) (hH:∀ b,H b->b < w.heap.size)
  (hT:T=outer*n*inner) (hn:1<=n) (hb1:outer<=1000) (hb2:n<=1000) (hb3:inner<=1000) (hbT:outer*n*inner<=1000000) (hbN:outer*inner<=1000000)
  (hc:∀ i,i < outer*n*inner->w.cell? ⟨b,o0+i,none⟩=some (.int .i64 (L i)))
  (hF:∀ j,j < T->F j=fi (L j)) (hLg:∀ j,j < T->Good (L j)) :
  Calls Tryz.prog 167 #[.int .i64 q,.slice (some ⟨b,o0,none⟩) T c,.int .i64 (outer:Int),.int .i64 (n:Int),.int .i64 (inner:Int)] w (FwOut H w (oneP pw q) F n inner (outer*inner)):=by
 have HT:=Lib.hid hT
 have HC:=Lib.hid hc
 have HF:=Lib.hid hF
 have HLG:=Lib.hid hLg
 have HH:=Lib.hid hH
 have HWA:=Lib.hid (fun a b ha hb W=>whole_all q a b ha hb W)
 obtain ⟨N,hN⟩:∃ N,N=outer*inner:=⟨_,rfl⟩
 have hNb:N<=1000000:=by omega
 have hNi:(outer:Int)*(inner:Int)=(N:Int):=by rw [hN];push_cast;rfl
 have hmk:=make_cap N hNb
 have HN:=Lib.hid hN
 have HBT:=Lib.hid hbT
 rw [<- hN]
 clear hT hc hF hLg hH hN hbN hbT
 have HO1:Hid (Own1 ((w.alloc (.cells zcells 38)).alloc (.cells (madeCells #[.int .i64 0] N) 2)) (w.heap.size+1) 2 (.slice (some ⟨w.heap.size+1,0,none⟩) 0 N) ((List.range (0*inner)).map fun j => .int .i64 (outI (oneP pw q) F n inner j))):=by
  have h:=World.ownsRow_made (base:=w.heap.size+1) (e:=2) (size:=1) (w.alloc (.cells zcells 38)) (madeCells #[.int .i64 0] N) N (by simp) (by unfold maxLen;omega) (by rw [size_madeCells];omega)
  have e:(w.alloc (.cells zcells 38)).heap.size=w.heap.size+1:=by simp
  rw [e] at h
  rw [Nat.zero_mul]
  exact h
 have HBM:=Lib.hid (bel2 w (.cells zcells 38) (.cells (madeCells #[.int .i64 0] N) 2))
 have HKM:=Lib.hid (block_up (bel1 (w.alloc (.cells zcells 38)) (.cells (madeCells #[.int .i64 0] N) 2)))
 go_enter Tryz.func167,Tryz.ntmps167
 go_wp2_with fail
 go_loopw [12,27] (fun v oo wr=>∃ o:Nat,o<=outer/\oo= .int .i64 o/\Own1 wr (w.heap.size+1) 2 v ((List.range (o*inner)).map fun j => .int .i64 (outI (oneP pw q) F n inner j))/\Below w.heap.size w wr/\wr.heap[w.heap.size]?=some (.cells zcells 38)/\∀ cc,cc < o*inner->∃ z,outZ (oneP pw q) F n inner cc z) (fun _ oo _=>outer - (intOf oo).toNat)
 case atStart=>exact ⟨0,Nat.zero_le _,rfl,HO1.out,HBM.out,HKM.out,fun cc h=>by rw [Nat.zero_mul] at h;exact absurd h (Nat.not_lt_zero _)⟩
 case round =>
  clear hmk hNi
  obtain ⟨o,ho,rfl,hown,hbl,hk,hall⟩:=hrel
  have HALL:=Lib.hid hall
  clear hall
  have HOWN:=Lib.hid hown
  have HBL:=Lib.hid hbl
  have HK:=Lib.hid hk
  clear hown hbl hk
  by_cases hlt:o < outer
  ·have HOWN':=Lib.hid (show Own1 wr (w.heap.size+1) 2 _ ((List.range (o*inner+0)).map fun j => .int .i64 (outI (oneP pw q) F n inner j)) from HOWN.out)
   have HALL':=Lib.hid (show ∀ cc,cc < o*inner+0->∃ z,outZ (oneP pw q) F n inner cc z from HALL.out)
   go_wp2_with fail
   go_loopw [12,31] (fun v kk wr=>∃ k:Nat,k<=inner/\kk= .int .i64 k/\Own1 wr (w.heap.size+1) 2 v ((List.range (o*inner+k)).map fun j => .int .i64 (outI (oneP pw q) F n inner j))/\Below w.heap.size w wr/\wr.heap[w.heap.size]?=some (.cells zcells 38)/\∀ cc,cc < o*inner+k->∃ z,outZ (oneP pw q) F n inner cc z) (fun _ kk _=>inner - (intOf kk).toNat)
   case atStart=>exact ⟨0,Nat.zero_le _,rfl,HOWN'.out,HBL.out,HK.out,HALL'.out⟩
   case round =>
    clear HOWN HOWN' HBL HK HALL HALL'
    obtain ⟨k,hk,rfl,hown,hbl,hkk,hall⟩:=hrel
    have HALL:=Lib.hid hall
    clear hall
    have HOWN:=Lib.hid hown
    have HBL:=Lib.hid hbl
    have HK:=Lib.hid hkk
    clear hown hbl hkk
    by_cases hltk:k < inner
    ·obtain ⟨P1,eP1⟩:∃ P1,P1=o*n:=⟨_,rfl⟩
     obtain ⟨P2,eP2⟩:∃ P2,P2=P1*inner:=⟨_,rfl⟩
     obtain ⟨A,eA⟩:∃ A,A=P2+k:=⟨_,rfl⟩
     obtain ⟨Q,eQ⟩:∃ Q,Q=(n - 1)*inner:=⟨_,rfl⟩
     obtain ⟨I,eI⟩:∃ I,I=A+Q:=⟨_,rfl⟩
     have hI:I < T:=by rw [eI,eA,eP2,eP1,eQ,HT.out];exact idx_lt hlt hltk (by omega)
     have HTB:T<=1000000:=by rw [HT.out];exact HBT.out
     have f1:(o:Int)*(n:Int)=(P1:Int):=by rw [eP1];push_cast;rfl
     have f2:(P1:Int)*(inner:Int)=(P2:Int):=by rw [eP2];push_cast;rfl
     have f3:(P2:Int)+(k:Int)=(A:Int):=by rw [eA];push_cast;rfl
     have f4:((n:Int) - 1)*(inner:Int)=(Q:Int):=by rw [eQ,Int.natCast_mul,Int.natCast_sub hn];rfl
     have f5:(A:Int)+(Q:Int)=(I:Int):=by rw [eI];push_cast;rfl
     have hP1:P1<=1000000:=by
      rw [eP1];exact Nat.le_trans (Nat.mul_le_mul (Nat.le_of_lt (Nat.lt_of_lt_of_le hlt hb1)) hb2) (by decide)
     have hP2:P2<=1000000:=by omega
     have hA:A<=1000000:=by omega
     have hQ:Q<=1000000:=by omega
     have eI':I=o*n*inner+k+(n - 1)*inner:=by rw [eI,eA,eP2,eP1,eQ]
     have eA':A=o*n*inner+k:=by rw [eA,eP2,eP1]
     have hcell:=HC.out I (by rw [<- HT.out];exact hI)
     have hci:wr.cell? ⟨b,o0+I,none⟩=some (.int .i64 (L I)):=by rw [HBL.out.cell (cell_lt hcell),hcell]
     have HX0:Hid (stepsR (oneP pw q) (lineF F n inner o k) n 0=some (fi (L I))):=by
      show some (lineF F n inner o k (n - 1))=_
      rw [<- HF.out I hI]
      unfold lineF
      rw [<- eI']
     have HGI:=Lib.hid (HLG.out I hI)
     have HEA:=Lib.hid eA'
     generalize L I=x at *
     clear eP1 eP2 eA eQ eI eI' eA' hcell
     go_wp2_with fail
     go_loop [16,17] (fun xx ii=>∃ m:Nat,∃ y:Int,m<=n - 1/\stepsR (oneP pw q) (lineF F n inner o k) n (n - 1 - m)=some (fi y)/\Good y/\xx= .int .i64 y/\ii= .int .i64 ((m:Int) - 1)) (fun _ ii=>(intOf ii+1).toNat)
     case atStart=>exact ⟨n - 1,x,Nat.le_refl _,by rw [Nat.sub_self];exact HX0.out,HGI.out,rfl,by congr 1;omega⟩
     case round =>
      clear hci HX0 HGI f1 f2 f3 f4 f5 hI
      obtain ⟨m,y,hm,hsy,hgy,rfl,rfl⟩:=hrel
      have HSY:=Lib.hid hsy
      have HGY:=Lib.hid hgy
      clear hsy hgy
      rcases m with _ | j
      ·have e0:((0:Nat):Int) - 1=-1:=rfl
       rw [e0]
       have HRY:Hid (outZ (oneP pw q) F n inner (o*inner+k) y):=by
        refine ⟨?_,HGY.out⟩
        rw [rowsR_at hltk]
        exact HSY.out
       have HOS:=Lib.hid (outI_succ HRY.out)
       have hBw:w.heap.size+1<=wr.heap.size:=(boxed_of HK.out).1.lt
       have hcnt:o*inner+k < outer*inner:=by
        have:(o+1)*inner<=outer*inner:=Nat.mul_le_mul_right _ hlt
        rw [Nat.add_mul] at this
        omega
       have HFL:Hid ((((List.range (o*inner+k)).map fun j=>Value.int .i64 (outI (oneP pw q) F n inner j)).length+1)*8<=140737488355328):=by
        rw [List.length_map,List.length_range];have:=HN.out;show _<=_;omega
       have HFL2:Hid (((List.range (o*inner+k)).map fun j=>Value.int .i64 (outI (oneP pw q) F n inner j)).length+1<=140737488355328):=by
        rw [List.length_map,List.length_range];have:=HN.out;show _<=_;omega
       clear hcnt e0
       go_wp2_with (at_builtin;refine wpList_push1 rfl (.tmp 74) (.tmp 76) 33 2 rfl Tryz.underlying33 (.int .i64 0) 8 info_i64 rfl (w.heap.size+1) _ ((List.range (o*inner+k)).map fun j=>Value.int .i64 (outI (oneP pw q) F n inner j)) rfl HOWN.out (.int .i64 y) rfl rfl HFL.out HFL2.out hBw ?_;intro v' w1 hv' hb' _ hs';rw [HOS.out] at hv';have HV:=Lib.hid hv';have HB':=Lib.hid (hb' wr (Below.refl _ _));clear hb' hv' hs')
       go_roundw
       case rel=>exact ⟨k+1,by omega,by go_num,HV.out,bel_both' HBL.out HB'.out,by rw [HB'.out.block _ (Nat.lt_succ_self _)];exact HK.out,fun cc hcc=>by
        by_cases e:cc=o*inner+k
        ·exact ⟨y,by rw [e];exact HRY.out⟩
        ·exact HALL.out cc (by omega)⟩
       case measure=>simp [intOf];omega
      ·have ej:((j+1:Nat):Int) - 1=(j:Int):=by omega
       rw [ej]
       obtain ⟨Q2,eQ2⟩:∃ Q2,Q2=j*inner:=⟨_,rfl⟩
       obtain ⟨I2,eI2⟩:∃ I2,I2=A+Q2:=⟨_,rfl⟩
       have hI2:I2 < T:=by rw [eI2,HEA.out,eQ2,HT.out];exact idx_lt hlt hltk (by omega)
       have f4:(j:Int)*(inner:Int)=(Q2:Int):=by rw [eQ2];push_cast;rfl
       have f5:(A:Int)+(Q2:Int)=(I2:Int):=by rw [eI2];push_cast;rfl
       have hQ2:Q2<=1000000:=by omega
       have hcell:=HC.out I2 (by rw [<- HT.out];exact hI2)
       have hci:wr.cell? ⟨b,o0+I2,none⟩=some (.int .i64 (L I2)):=by rw [HBL.out.cell (cell_lt hcell),hcell]
       have HWJ:=Lib.hid (HWA.out (L I2) y (HLG.out I2 hI2) HGY.out)
       have HNX:Hid (∀ cz,wholeZ q (L I2) y=some cz->stepsR (oneP pw q) (lineF F n inner o k) n (n - 1 - j)=some (fi cz)/\Good cz):=by
        intro cz hcz
        refine ⟨?_,wholeZ_good (HLG.out I2 hI2) HGY.out hcz⟩
        have e1:n - 1 - j=(n - 1 - (j+1))+1:=by omega
        rw [e1]
        show (stepsR _ _ _ _).bind _=_
        rw [HSY.out]
        have e2:n - 2 - (n - 1 - (j+1))=j:=by omega
        show (if (oneP pw q (lineF F n inner o k (n - 2 - (n - 1 - (j+1)))) (fi y)).2=0 then some (oneP pw q (lineF F n inner o k (n - 2 - (n - 1 - (j+1)))) (fi y)).1 else none)=_
        have e3:lineF F n inner o k j=fi (L I2):=by unfold lineF;rw [<- HF.out I2 hI2,eI2,HEA.out,eQ2]
        rw [e2,e3,wholeZ_one pw (HLG.out I2 hI2) HGY.out hcz]
        rfl
       have hj:j < 1000:=by omega
       have hjm:j<=n - 1:=by omega
       generalize wholeZ q (L I2) y=r at HWJ HNX
       generalize L I2=lx at *
       clear eQ2 eI2 hcell ej hm HSY HGY
       unfold OptR at HWJ
       rcases r with _ | cz
       ·obtain ⟨⟨h0,h1,h2,h3,h4,h5,h6,h7⟩,hz⟩:=boxed_of HK.out
        go_wp2_with fail
        refine (HWJ.out _).mono ?_
        rintro e w' ⟨rfl,rfl⟩
        go_wp2
        refine bodyPost_ret (v := .tuple #[vecV 0 vnil 0 vnil vnil vnil vnil vnil,.bool false]) ?_ rfl (.inr ⟨rfl,below_set8 HBL.out (Nat.le_refl _) _ _ _ _ _ _ _ _⟩)
        exact ret_vec2 (fn:=Tryz.f167) (p:=10) (u:=11) rfl _ _ w.heap.size (by rfl) (set8_block HK.out _ _ _ _ _ _ _ _)
       ·obtain ⟨hn1,hn2⟩:=HNX.out cz rfl
        have HN1:=Lib.hid hn1
        have HN2:=Lib.hid hn2
        clear HNX hn1 hn2
        go_wp2_with fail
        refine (HWJ.out _).mono ?_
        rintro e w' ⟨rfl,rfl⟩
        go_wp2
        go_round
        case rel=>exact ⟨j,cz,hjm,HN1.out,HN2.out,rfl,rfl⟩
        case measure=>simp [intOf]
    ·obtain rfl:k=inner:=by omega
     have HOWN2:Hid (Own1 wr (w.heap.size+1) 2 u12 ((List.range ((o+1)*k)).map fun j => .int .i64 (outI (oneP pw q) F n k j))):=by rw [Nat.add_mul,Nat.one_mul];exact HOWN.out
     have HALL2:Hid (∀ cc,cc < (o+1)*k->∃ z,outZ (oneP pw q) F n k cc z):=by rw [Nat.add_mul,Nat.one_mul];exact HALL.out
     go_wp2
     go_roundw
     case rel=>exact ⟨o+1,by omega,by go_num,HOWN2.out,HBL.out,HK.out,HALL2.out⟩
     case measure=>simp [intOf];omega
  ·obtain rfl:o=outer:=by omega
   have HALLN:Hid (∀ cc,cc < N->∃ z,outZ (oneP pw q) F n inner cc z):=by rw [HN.out];exact HALL.out
   have HGO:Hid (∀ j,j < N->Good (outI (oneP pw q) F n inner j)):=fun j hj=>by
    obtain ⟨z,hz⟩:=HALLN.out j hj
    rw [(outI_of hz).1];exact hz.2
   have HFO:Hid (∀ j,j < N->outF (oneP pw q) F n inner j=fi (outI (oneP pw q) F n inner j)):=fun j hj=>by
    obtain ⟨z,hz⟩:=HALLN.out j hj
    rw [(outI_of hz).1];exact (outI_of hz).2
   have HI:=Lib.hid (ints_any (l:=(List.range N).map fun j=>outI (oneP pw q) F n inner j) (by rw [List.map_map,HN.out];exact HOWN.out.reads) (by simpa using hNb) (fun y hy=>by
    obtain ⟨j,hj,rfl⟩:=List.mem_map.1 hy
    exact HGO.out j (List.mem_range.1 hj)))
   clear HWA HF HLG HC
   go_wp2_with fail
   refine HI.out.mono ?_
   rintro e w2 ⟨u,rfl,hou,hb2⟩
   rw [List.map_map] at hou
   have HB2:=Lib.hid (bel_both HBL.out hb2)
   have HK2:=Lib.hid (show w2.heap[w.heap.size]?=some (.cells zcells 38) by rw [hb2.block _ (boxed_of HK.out).1.lt];exact HK.out)
   have HU:=Lib.hid (hou.lower (show w.heap.size+1<=wr.heap.size from (boxed_of HK.out).1.lt))
   obtain ⟨ua,un,uc,hu⟩:∃ a n c,u= .slice a n c:=by obtain ⟨a,c,e⟩:=hou.reads.len;exact ⟨a,_,c,e⟩
   subst hu
   clear hb2 hou
   have HB3:=Lib.hid (HB2.out.alloc HB2.out.size (.cells #[.int .i64 3,vnil,.int .i64 0,vnil,.slice ua un uc,vnil,vnil,vnil] 38))
   have HK3:=Lib.hid (show (w2.alloc (.cells #[.int .i64 3,vnil,.int .i64 0,vnil,.slice ua un uc,vnil,vnil,vnil] 38)).heap[w.heap.size]?=some (.cells zcells 38) by rw [Below.heap_alloc _ _ _ (boxed_of HK2.out).1.lt];exact HK2.out)
   have HU3:=Lib.hid (HU.out.alloc (.cells #[.int .i64 3,vnil,.int .i64 0,vnil,.slice ua un uc,vnil,vnil,vnil] 38))
   have HKV:Hid (Keeps (fun j=>H j\/j=w.heap.size) (w2.alloc (.cells #[.int .i64 3,vnil,.int .i64 0,vnil,.slice ua un uc,vnil,vnil,vnil] 38)) (NumV (vecW 3 (none,0,0) 0 (none,0,0) (ua,un,uc) (none,0,0) (none,0,0) (none,0,0)) 3 N (outF (oneP pw q) F n inner))) :=
    ((HU.out.keepsH (fun j e=>by rcases e with e | e;have:=HH.out j e;omega;omega)).imp fun W' h2=>(numV_ints ⟨⟨_,rfl,h2⟩,HGO.out⟩).congr HFO.out).step (bel1 w2 _)
   have HS3:=Lib.hid (squeeze_num (fun j=>H j\/j=w.heap.size) 3 (none,0,0) 0 (none,0,0) (ua,un,uc) (none,0,0) (none,0,0) (none,0,0) N (outF (oneP pw q) F n inner) _ (fun j e=>by
    have h1:=HB3.out.size
    have h2:=lt_of_block HK3.out
    rcases e with e | e
    ·have:=HH.out j e;omega
    ·omega) hNb HKV.out)
   go_wp2_with fail
   refine HS3.out.mono ?_
   rintro e w4 ⟨k4,b4,bn4,s4,i4,f4,c4,x4,rfl,hk4,hb4⟩
   have HB4:=Lib.hid (bel_both HB3.out hb4)
   have HK4:=Lib.hid (show w4.heap[w.heap.size]?=some (.cells zcells 38) by rw [hb4.block _ (boxed_of HK3.out).1.lt];exact HK3.out)
   have HKE:=Lib.hid hk4
   clear hb4 hk4
   obtain ⟨⟨h0,h1,h2,h3,h4,h5,h6,h7⟩,hz⟩:=boxed_of HK4.out
   go_wp2
   refine bodyPost_ret (v := .tuple #[vecW k4 b4 bn4 s4 i4 f4 c4 x4,.bool true]) ?_ rfl (.inl ⟨fun cc hcc=>by obtain ⟨z,hz⟩:=HALLN.out cc hcc;exact ⟨_,hz.1⟩,k4,b4,bn4,s4,i4,f4,c4,x4,rfl,(HKE.out.set8 (.inr rfl) _ _ _ _ _ _ _ _).sub (fun _ _ e => .inl e),below_set8 HB4.out (Nat.le_refl _) _ _ _ _ _ _ _ _⟩)
   exact ret_vec2 (fn:=Tryz.f167) (p:=10) (u:=11) rfl _ _ w.heap.size (by rfl) (set8_block HK4.out _ _ _ _ _ _ _ _)
end Go.Proofs.YtakgmnafbjdccaaGreatDoor
