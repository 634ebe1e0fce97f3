/- The reference's Match of a good tree; Deep tells some number, at most 60. Printed by gen_trml.py. The walk of the reference's Ints at shapes that are alike. .. Conditions: as each theorem says. -/
import Derived.Test.YtbakjaliponbbaaGreatDoorMg26
import Derived.Test.YtbakjaliponbbaaGreatDoorMg02
import Derived.Test.YtbakjaliponbbaaGreatDoorMg15
import Derived.Deep.QuietTactic
import Derived.BigQuiet
import Derived.Test.YtbakjaliponbbaaGreatDoorMg17
import Derived.Test.YtbakjaliponbbaaGreatDoorMg12
import Derived.Test.YtbakjaliponbbaaGreatDoorMg14
import Derived.Test.YtbakjaliponbbaaGreatDoorMg13
import Derived.Test.YtbakjaliponbbaaGreatDoorMg09
import Derived.Test.YtbakjaliponbbaaGreatDoorMg07
import Derived.Deep.RegionHeld3
import Derived.Deep.CutRange
import Derived.Test.YtbakjaliponbbaaGreatDoorMg08
set_option maxRecDepth 100000
set_option maxHeartbeats 1600000
namespace Go.Proofs.YtbakjaliponbbaaGreatDoor
open Go Go.RowKit Go.Proofs Fl
theorem rmatch_walk {w:World}{t:RTree}{v0 v1 v2 v3 v4 v5:Value} (ht:RN w t [v0,v1,v2,v3,v4,v5]) (hs:Shp3 t) (W:World) (hb:Below w.heap.size w W) :
  Calls Tryz.prog 30 #[.agg #[v0,v1,v2,v3,v4,v5]] W (PhR W (mtP t)):=by
 by_cases h9:kindR t=9
 ·exact rmatch_9 ht h9 hs W hb
 ·by_cases h8:kindR t=8
  ·exact rmatch_8 ht h8 hs W hb
  ·by_cases h10:kindR t=10
   ·exact rmatch_10 ht h10 hs W hb
   ·exact rmatch_no ht h8 h9 h10 W hb
def SomeD (m:Int) (e:Ending):Prop:=∃ n:Int,0<=n/\n<=m/\e= .returned (.int .i64 n)
theorem deep_R:∀ (N:Nat) (t:RTree) (v0 v1 v2 v3 v4 v5:Value) (most:Int) (w:World),sizeR t<=N->sizeR t<=1048576->0<=most->most<=60->RN w t [v0,v1,v2,v3,v4,v5] ->
  Calls Tryz.prog 58 #[.agg #[v0,v1,v2,v3,v4,v5],.int .i64 most] w fun e w'=>SomeD most e/\Below w.heap.size w w'
 | 0,t,_,_,_,_,_,_,_,_,h,_,_,_,_=>by have:=sizeR_pos t;omega
 | N+1,.mk k nums text name c kids,v0,v1,v2,v3,v4,v5,most,w,hN,hM,hm0,hm60,hr=>by
  obtain ⟨nv,tv,A,cc,m,hvs,hrn,hrt,hm,hkid⟩:=hr.open_
  simp only [List.cons.injEq,and_true] at hvs
  obtain ⟨rfl,rfl,rfl,rfl,rfl,rfl⟩:=hvs
  obtain ⟨A1,n1,c1,rfl,hx1⟩:=hrn.slice
  obtain ⟨A2,n2,c2,rfl,hx2⟩:=hrt.slice
  clear hx1 hx2
  have HK:=Lib.hid hkid
  have HM:=Lib.hid hm
  have hsz:sizeR (.mk k nums text name c kids)=1+sizeRs kids:=by rw [sizeR]
  have hlen:=sizeRs_len kids
  have hm2:m<=1048576:=by omega
  have HIH:Hid (∀ t v0 v1 v2 v3 v4 v5 (most:Int) w,sizeR t<=N->sizeR t<=1048576->0<=most->most<=60->RN w t [v0,v1,v2,v3,v4,v5]->Calls Tryz.prog 58 #[.agg #[v0,v1,v2,v3,v4,v5],.int .i64 most] w fun e w'=>SomeD most e/\Below w.heap.size w w'):=deep_R N
  have HAT:Hid (∀ i (hi:i < kids.length),sizeR kids[i]<=sizeRs kids):=fun i hi=>sizeRs_at hi
  have HN2:Hid (1+sizeRs kids<=N+1/\1+sizeRs kids<=1048576):=by unfold Hid;omega
  have HB0:Hid (Below w.heap.size w (w.alloc (.cells #[.int .i64 k,.slice A1 n1 c1,.slice A2 n2 c2,.string name,.int .i32 c,.slice A m cc] 29))):=(Below.refl _ w).alloc (Nat.le_refl _) _
  clear hkid hm hsz hlen hN hM hr hrn hrt
  have hk0:(w.alloc (.cells #[.int .i64 k,.slice A1 n1 c1,.slice A2 n2 c2,.string name,.int .i32 c,.slice A m cc] 29)).cell? ⟨w.heap.size,5,none⟩=some (.slice A m cc):=by rw [World.cell?_alloc_at _ _ _ _ rfl];rfl
  have HK0:=Lib.hid hk0
  have hsz0:(w.alloc (.cells #[.int .i64 k,.slice A1 n1 c1,.slice A2 n2 c2,.string name,.int .i32 c,.slice A m cc] 29)).heap.size=w.heap.size+1:=by simp
  have HSZ0:=Lib.hid hsz0
  clear hk0 hsz0
  by_cases hz:most=0
  ·subst hz
   go_enter Tryz.func58,Tryz.ntmps58
   go_wp2
   go_ret
   exact ⟨⟨0,by omega,by omega,rfl⟩,HB0.out⟩
  ·have hz1:(most==0)=false:=by simpa using hz
   have hp1:1<=most:=by omega
   go_enter Tryz.func58,Tryz.ntmps58
   go_wp2
   generalize w.alloc (.cells #[.int .i64 k,.slice A1 n1 c1,.slice A2 n2 c2,.string name,.int .i32 c,.slice A m cc] 29)=W at *
   go_loopw [5,6] (fun cv iv wr=>∃ (i:Nat) (n:Int),i<=m/\iv= .int .i64 (i:Int)/\cv= .int .i64 n/\0<=n/\n+1<=most/\Below W.heap.size W wr) (fun _ iv _=>m - (intOf iv).toNat)
   case atStart=>exact ⟨0,0,Nat.zero_le _,rfl,rfl,by omega,by omega,Below.refl _ _⟩
   case round =>
    obtain ⟨i,n,hi,rfl,rfl,h1,h2,hbl⟩:=hrel
    have HBL:=Lib.hid hbl
    have HBW:Hid (Below w.heap.size w wr):=HB0.out.trans (hbl.mono (by have:=HSZ0.out;omega))
    have hk0:wr.cell? ⟨w.heap.size,5,none⟩=some (.slice A m cc):=by rw [hbl.cell (by have:=HSZ0.out;simp;omega)];exact HK0.out
    have hzw:W.heap.size<=wr.heap.size:=hbl.size
    clear hbl
    by_cases him:i < m
    ·have hik:i < kids.length:=by have:=HM.out;omega
     obtain ⟨b,o,u0,u1,u2,u3,u4,u5,rfl,hr,hce⟩:=HK.out i hik
     obtain ⟨c0,c1,c2,c3,c4,c5⟩:=hce wr HBW.out
     have HIC:=Lib.hid (HIH.out kids[i] u0 u1 u2 u3 u4 u5 (most - 1) wr (by have:=HAT.out i hik;have:=HN2.out;omega) (by have:=HAT.out i hik;have:=HN2.out;omega) (by omega) (by omega) (hr.below HBW.out))
     clear hr hce
     go_wp2_with fail
     refine HIC.out.mono ?_
     rintro e w2 ⟨⟨n2,g1,g2,rfl⟩,hb⟩
     have HB2:=Lib.hid (HBL.out.trans (hb.mono hzw))
     clear hb
     by_cases hg:n < n2
     ·go_wp2
      go_roundw
      case rel=>exact ⟨i+1,n2,by omega,by go_num,rfl,by omega,by omega,HB2.out⟩
      case measure=>simp [intOf];omega
     ·go_wp2
      go_roundw
      case rel=>exact ⟨i+1,n,by omega,by go_num,rfl,by omega,by omega,HB2.out⟩
      case measure=>simp [intOf];omega
    ·have hn1:0<=n+1:=by omega
     go_wp2
     go_ret
     exact ⟨⟨n+1,by omega,by omega,rfl⟩,HBW.out⟩
theorem Deep_R (t:RTree) (v0 v1 v2 v3 v4 v5:Value) (w:World) (hM:sizeR t<=1048576) (hr:RN w t [v0,v1,v2,v3,v4,v5]) :
  Calls Tryz.prog 25 #[.agg #[v0,v1,v2,v3,v4,v5]] w fun e w'=>SomeD 60 e/\Below w.heap.size w w':=by
 have HB0:Hid (Below w.heap.size w (w.alloc (.cells #[v0,v1,v2,v3,v4,v5] 29))):=(Below.refl _ w).alloc (Nat.le_refl _) _
 have HDP:=Lib.hid (fun w' hb=>deep_R (sizeR t) t v0 v1 v2 v3 v4 v5 60 w' (Nat.le_refl _) hM (by decide) (by decide) (hr.below (w':=w') hb))
 clear hM hr
 go_enter Tryz.func25,Tryz.ntmps25
 go_wp2_with fail
 refine (HDP.out _ HB0.out).mono ?_
 rintro e w1 ⟨⟨n,g1,g2,rfl⟩,hb⟩
 have HB1:=Lib.hid (bel_both HB0.out hb)
 clear hb
 go_wp2
 go_ret
 exact ⟨⟨n,g1,g2,rfl⟩,HB1.out⟩
theorem below_drewN {B:Nat}{a w:World} (h:Below B a w) (k:Nat):Below B a (w.drewN k):=⟨h.os,h.tape,h.output,h.size,h.block⟩
theorem ints_same (va vb:Value) (s:List Int) (w:World) (ha:Reads1 w va (s.map (Value.int .i64))) (hb:Reads1 w vb (s.map (Value.int .i64))) (hl:s.length<=1048576) :
  Calls Tryz.prog 132 #[va,vb] w fun e w'=>e= .returned (.bool true)/\Below w.heap.size w w':=by
 obtain ⟨A,n,c,rfl,hn,hcell⟩:=int_open ha
 obtain ⟨A2,n2,c2,rfl,hn2,hcell2⟩:=int_open hb
 obtain rfl:n2=n:=by omega
 have HC:=Lib.hid hcell
 have HC2:=Lib.hid hcell2
 have HN:=Lib.hid hn
 have hnb:n2<=1048576:=by omega
 have hne:((n2:Int) != (n2:Int))=false:=by simp
 clear ha hb hl hn hn2 hcell hcell2
 go_enter Tryz.func132,Tryz.ntmps132
 go_wp2
 go_loopw [5] (fun i wr=>∃ k:Nat,k<=n2/\i= .int .i64 (k:Int)/\Below w.heap.size w wr) (fun i _=>n2 - (intOf i).toNat)
 case atStart=>exact ⟨0,Nat.zero_le _,rfl,Below.refl _ _⟩
 case round =>
  obtain ⟨k,hk,rfl,hbl⟩:=hrel
  have HBL:=Lib.hid hbl
  by_cases hlt:k < n2
  ·have hks:k < s.length:=by have:=HN.out;omega
   obtain ⟨b,o,rfl,hce⟩:=HC.out k hks
   obtain ⟨b',o',rfl,hce'⟩:=HC2.out k hks
   have c1:=cell_up hbl hce
   have c2':=cell_up hbl hce'
   generalize s[k]=x at c1 c2'
   have hxe:(x != x)=false:=by simp
   have hlt2:(k:Int) < (n2:Int):=by omega
   clear hce hce' hbl
   go_wp2
   go_quiet (fail)
   go_wp2
   go_roundw
   case rel=>exact ⟨k+1,by omega,by go_num,below_drewN HBL.out _⟩
   case measure=>simp [intOf];omega
  ·have hge:¬ (k:Int) < (n2:Int):=by omega
   clear hlt hbl
   go_wp2
   go_ret
   exact ⟨rfl,HBL.out⟩
theorem av_class {H:Nat->Prop}{w:World}{a:PA}{h:Sl}{p:V8} (g:AV H w a h p) (W:World) (hb:Below w.heap.size w W) :
  Calls Tryz.prog 135 #[p.v] W fun e w'=>e= .returned (.int .i64 (a.fill:Nat))/\Below W.heap.size W w':=by
 cases a with
 | nums s l =>
  rcases g.nums with h | ⟨rfl,rfl⟩
  ·exact (Keeps.lat h.num (Lat.below hb)).now.cls
  ·exact class_1 _ _ _ _ _ _ _ W
 | chars s l =>
  obtain ⟨c,rfl,_⟩:=g.chars
  exact class_5 _ _ _ _ _ _ _ W
 | boxes s l =>
  obtain ⟨A,n,c,rfl,_⟩:=g.boxes
  exact class_6 _ _ _ _ _ _ _ W
theorem av_len {H:Nat->Prop}{w:World}{a:PA}{h:Sl}{p:V8} (g:AV H w a h p) (W:World) (hb:Below w.heap.size w W) :
  Calls Tryz.prog 48 #[p.v] W fun e w'=>e= .returned (.int .i64 (a.len:Nat))/\Below W.heap.size W w':=by
 cases a with
 | nums s l =>
  rcases g.nums with h | ⟨rfl,rfl⟩
  ·exact (Keeps.lat h.num (Lat.below hb)).now.len
  ·exact len_1 _ _ _ _ _ _ _ W
 | chars s l =>
  obtain ⟨c,rfl,hr⟩:=g.chars
  have e:c.2.1=l.length:=by
   obtain ⟨x,y,e⟩:=RdH.len hr
   unfold sv at e
   injection e with _ e _
   simpa using e
  have h1:=len_5 vnil 0 vnil vnil vnil vnil c.1 c.2.1 c.2.2 W
  rw [e] at h1
  have h2:(charsP c).v=vecV 5 vnil 0 vnil vnil vnil (.slice c.1 l.length c.2.2) vnil:=by rw [<- e]
  rw [h2]
  exact h1
 | boxes s l =>
  obtain ⟨A,n,c,rfl,rfl,_⟩:=g.boxes
  exact len_6 vnil 0 vnil vnil vnil vnil A l.length c W
theorem av_num {H:Nat->Prop}{w:World}{s l:List Nat}{h:Sl}{p:V8} (g:AV H w (.nums s l) h p) (W:World) (hb:Below w.heap.size w W) (i:Nat) (hi:i < l.length) :
  Calls Tryz.prog 138 #[p.v,.int .i64 (i:Nat)] W fun e w'=>e= .returned (.float .f64 (l.getD i 0))/\Below W.heap.size W w':=by
 rcases g.nums with h | ⟨rfl,_⟩
 ·exact (Keeps.lat h.num (Lat.below hb)).now.num i hi
 ·exact absurd hi (Nat.not_lt_zero _)
theorem least_cls (k:Int) (b:Value) (bn:Int) (s i f c x:Value) (z:Int) (hz:z≠0) (w:World)
  (hc:∀ W,Calls Tryz.prog 135 #[vecV k b bn s i f c x] W fun e w'=>e= .returned (.int .i64 z)/\Below W.heap.size W w') :
  Calls Tryz.prog 195 #[vecV k b bn s i f c x] w fun e w'=>e= .returned (.int .i64 k)/\Below w.heap.size w w':=by
 have HC:=Lib.hid hc
 have HK:=Lib.hid (fun W=>vkind_any k b bn s i f c x W)
 have hz2:(z != 0)=true:=by simpa using hz
 clear hc hz
 go_enter Tryz.func195,Tryz.ntmps195
 go_wp2_with fail
 refine (HC.out _).mono ?_
 rintro e w1 ⟨rfl,hb1⟩
 have HB1:=Lib.hid (bel_both (bel1 w _) hb1)
 obtain ⟨h0,h1,h2,h3,h4,h5,h6,h7⟩:=(boxed_new w 57 k b bn s i f c x).below hb1
 clear hb1
 go_wp2_with fail
 refine (HK.out _).mono ?_
 rintro e w2 ⟨rfl,hb2⟩
 have HB2:=Lib.hid (bel_both HB1.out hb2)
 clear hb2 h0 h1 h2 h3 h4 h5 h6 h7
 go_wp2
 go_ret
 exact ⟨rfl,HB2.out⟩
theorem tight_cls (k:Int) (b:Value) (bn:Int) (s i f c x:Value) (z:Int) (hz:z≠0) (w:World)
  (hc:∀ W,Calls Tryz.prog 135 #[vecV k b bn s i f c x] W fun e w'=>e= .returned (.int .i64 z)/\Below W.heap.size W w') :
  Calls Tryz.prog 180 #[vecV k b bn s i f c x] w fun e w'=>e= .returned (.bool true)/\Below w.heap.size w w':=by
 have HC:=Lib.hid (fun W=>vkind_any k b bn s i f c x W)
 have HL:=Lib.hid (fun W=>least_cls k b bn s i f c x z hz W hc)
 have hkk:(k==k)=true:=by simp
 clear hc hz
 go_enter Tryz.func180,Tryz.ntmps180
 go_wp2_with fail
 go_region_with (first
  | (go_at_call 52;go_loud ((refine (HC.out _).mono ?_);rintro e w1 ⟨rfl,hb1⟩);obtain ⟨hc1,hf1⟩:=bcell2 hb1;have hz1:=hb1.size)
  | (go_at_call 195;go_loud ((refine (HL.out _).mono ?_);rintro e w2 ⟨rfl,hb2⟩);obtain ⟨hc2,hf2⟩:=bcell2 hb2;have hz2:=hb2.size))
 all_goals
  go_wp2
  go_ret
  exact ⟨rfl,bel_both (bel_both (bel1 w _).drew hb1) hb2⟩
theorem pack_top {n:Nat}{l:Nat->Bool}{r:Nat} (hr:r=n % 64) (hr0:r≠0):(packW l n ((n+63) / 64 - 1)) / 2 ^ r=0:=by
 have h:(packW l n ((n+63) / 64 - 1)) < 2 ^ r:=by
  refine Nat.lt_pow_two_of_testBit _ fun i hi=>?_
  by_cases h64:i < 64
  ·rw [packW_bit _ _ _ _ h64]
   simp only [Bool.and_eq_false_imp,decide_eq_true_eq]
   omega
  ·exact Nat.testBit_lt_two_pow (Nat.lt_of_lt_of_le (packW_lt l n _) (by
    have h2:(18446744073709551616:Nat)=2 ^ 64:=by decide
    rw [h2]
    exact Nat.pow_le_pow_right (n:=2) (by decide) (by omega)))
 exact Nat.div_eq_of_lt h
theorem btidy_any {w:World}{v:Value}{n:Nat}{l:Nat->Bool} (hb:BitsIn w v n l) (hn:n<=1000000) :
  Calls Tryz.prog 182 #[v] w fun e w'=>e= .returned (.bool true)/\Below w.heap.size w w':=by
 obtain ⟨b,o,c,rfl,hc⟩:=hb
 obtain ⟨M,hM⟩:∃ M,M=(n+63) / 64:=⟨_,rfl⟩
 obtain ⟨r,hr⟩:∃ r,r=n % 64:=⟨_,rfl⟩
 have HB:=Lib.hid (bel1 w (.cells #[.slice (some ⟨b,o,none⟩) M c,.int .i64 (n:Int)] 52))
 have hq:((n:Int)+63) / 64=(M:Int):=by omega
 have hand:bits .and .i64 (n:Int) 63=(r:Int):=by rw [hr];exact and63 n (by omega)
 have hq2:((n:Int)+63) / 2 ^ 6=(M:Int):=by rw [show (2:Int) ^ 6=64 by decide];exact hq
 have hne:((M:Int) != (M:Int))=false:=by simp
 have HTOP:=Lib.hid (fun (h:r≠0)=>pack_top (l:=l) hr h)
 rw [<- hM] at hc HTOP ⊢
 by_cases hr0:r=0
 ·have hr1:((r:Int)==0)=true:=by rw [hr0];rfl
  clear hr hM hc hr0
  go_enter Tryz.func182,Tryz.ntmps182
  go_wp2
  go_ret
  exact ⟨rfl,HB.out⟩
 ·have hr1:((r:Int)==0)=false:=by simp;omega
  have hr64:r < 64:=by omega
  have hM1:1<=M:=by omega
  have hcell:=cell_up HB.out (hc (M - 1) (by omega))
  have hz:=HTOP.out hr0
  generalize packW l n (M - 1)=x at hcell hz
  obtain ⟨m,hm⟩:∃ m,M=m+1:=⟨M - 1,by omega⟩
  have hm1:(M:Int) - 1=(m:Int):=by omega
  have hm2:M - 1=m:=by omega
  rw [hm2] at hcell
  have hmb:m<=1000000:=by omega
  have hmM:m < M:=by omega
  have hsh:((x:Int) / 2 ^ r==0)=true:=by
   have h2:((x / 2 ^ r:Nat):Int)=(x:Int) / 2 ^ r:=by push_cast;rfl
   rw [<- h2,hz];rfl
  clear hr hM hc hr0 hm hm2 HTOP hz
  go_enter Tryz.func182,Tryz.ntmps182
  go_wp2
  go_ret
  exact ⟨rfl,HB.out⟩
abbrev zbV:Value:=vecV 1 vnil 0 vnil vnil vnil vnil vnil
theorem least_zb (w:World):Calls Tryz.prog 195 #[zbV] w fun e w'=>e= .returned (.int .i64 1)/\Below w.heap.size w w':=by
 have HC:=Lib.hid (fun W=>class_1 vnil 0 vnil vnil vnil vnil vnil W)
 have HK:=Lib.hid (fun W=>vkind_any 1 vnil 0 vnil vnil vnil vnil vnil W)
 have HL:=Lib.hid (fun W=>len_1 vnil 0 vnil vnil vnil vnil vnil W)
 go_enter Tryz.func195,Tryz.ntmps195
 go_wp2_with fail
 refine (HC.out _).mono ?_
 rintro e w1 ⟨rfl,hb1⟩
 have HB1:=Lib.hid (bel_both (bel1 w _) hb1)
 have HX1:=Lib.hid ((boxed_new w 57 1 vnil 0 vnil vnil vnil vnil vnil).below hb1)
 obtain ⟨h0,h1,h2,h3,h4,h5,h6,h7⟩:=HX1.out
 clear hb1
 go_wp2_with fail
 refine (HK.out _).mono ?_
 rintro e w2 ⟨rfl,hb2⟩
 have HB2:=Lib.hid (bel_both HB1.out hb2)
 have HX2:=Lib.hid (HX1.out.below hb2)
 clear hb2 h0 h1 h2 h3 h4 h5 h6 h7
 obtain ⟨h0,h1,h2,h3,h4,h5,h6,h7⟩:=HX2.out
 go_wp2_with fail
 refine (HL.out _).mono ?_
 rintro e w3 ⟨rfl,hb3⟩
 have HB3:=Lib.hid (bel_both HB2.out hb3)
 clear hb3 h0 h1 h2 h3 h4 h5 h6 h7
 go_wp2_with fail
 refine wp_loop_rounds 1 ?_
 rw [rounds_succ]
 go_wp2
 go_ret
 exact ⟨rfl,HB3.out⟩
theorem tight_zb (w:World):Calls Tryz.prog 180 #[zbV] w fun e w'=>e= .returned (.bool true)/\Below w.heap.size w w':=by
 have HC:=Lib.hid (fun W=>vkind_any 1 vnil 0 vnil vnil vnil vnil vnil W)
 have HL:=Lib.hid (fun W=>least_zb W)
 go_enter Tryz.func180,Tryz.ntmps180
 go_wp2_with fail
 go_region_with (first
  | (go_at_call 52;go_loud ((refine (HC.out _).mono ?_);rintro e w1 ⟨rfl,hb1⟩);obtain ⟨hc1,hf1⟩:=bcell2 hb1;have hz1:=hb1.size)
  | (go_at_call 195;go_loud ((refine (HL.out _).mono ?_);rintro e w2 ⟨rfl,hb2⟩);obtain ⟨hc2,hf2⟩:=bcell2 hb2;have hz2:=hb2.size))
 all_goals
  go_wp2
  go_ret
  exact ⟨rfl,bel_both (bel_both (bel1 w _).drew hb1) hb2⟩
theorem btidy_zb (w:World):Calls Tryz.prog 182 #[.agg #[.slice none 0 0,.int .i64 0]] w fun e w'=>e= .returned (.bool true)/\Below w.heap.size w w':=by
 have HB:=Lib.hid (bel1 w (.cells #[.slice none 0 0,.int .i64 0] 52))
 have hand:bits .and .i64 0 63=0:=by decide
 go_enter Tryz.func182,Tryz.ntmps182
 go_wp2
 go_ret
 exact ⟨rfl,HB.out⟩
theorem av_tight {H:Nat->Prop}{w:World}{a:PA}{h:Sl}{p:V8} (g:AV H w a h p) (hl:a.len<=1000000) (W:World) (hb:Below w.heap.size w W) :
  Calls Tryz.prog 180 #[p.v] W fun e w'=>e= .returned (.bool true)/\Below W.heap.size W w':=by
 cases a with
 | nums s l =>
  rcases g.nums with h | ⟨rfl,rfl⟩
  ·refine (tight_any (n:=l.length) (F:=fun j=>l.getD j 0) hl (fun W' hb'=>(Keeps.lat h.num (Lat.below (bel_both hb hb'))).now)).mono ?_
   rintro e w' ⟨rfl,hb2⟩
   refine ⟨?_,hb2⟩
   rw [h.least]
   simp
  ·exact tight_zb W
 | chars s l =>
  obtain ⟨c,rfl,_⟩:=g.chars
  exact tight_cls _ _ _ _ _ _ _ _ 1 (by decide) W fun W=>class_5 _ _ _ _ _ _ _ W
 | boxes s l =>
  obtain ⟨A,n,c,rfl,_⟩:=g.boxes
  exact tight_cls _ _ _ _ _ _ _ _ 2 (by decide) W fun W=>class_6 _ _ _ _ _ _ _ W
def partA:PA->Nat->PA
 | .nums _ l,i => .nums [] [l.getD (ixP l.length i) 0]
 | .chars _ l,i => .chars [] [l.getD (ixP l.length i) 0]
 | .boxes _ l,i=>l.getD (ixP l.length i) default
mutual
def SmA (M:Nat):PA->Prop
 | .nums _ l=>l.length<=M
 | .chars _ l=>l.length<=M
 | .boxes _ l=>l.length<=M/\SmAs M l
def SmAs (M:Nat):List PA->Prop
 | []=>True
 | a::ar=>SmA M a/\SmAs M ar
end
theorem smAs_at {M:Nat}:∀ {l:List PA}{i:Nat} (hi:i < l.length),SmAs M l->SmA M l[i]
 | [],_,hi,_=>by simp at hi
 | a::ar,0,_,h=>by rw [SmAs] at h;exact h.1
 | a::ar,i+1,hi,h=>by rw [SmAs] at h;simpa using smAs_at (l:=ar) (i:=i) (by simpa using hi) h.2
theorem SmA.len {M:Nat}{a:PA} (h:SmA M a):a.len<=M:=by
 cases a <;> (rw [SmA] at h;first | exact h | exact h.1)
theorem SmA.boxes {M:Nat}{s:List Nat}{l:List PA} (h:SmA M (.boxes s l)):∀ i (hi:i < l.length),SmA M l[i]:=by
 rw [SmA] at h
 exact fun i hi=>smAs_at hi h.2
mutual
theorem SmA.up {M M':Nat} (hm:M<=M'):∀ (a:PA),SmA M a->SmA M' a
 | .nums s l,h=>by rw [SmA] at h ⊢;omega
 | .chars s l,h=>by rw [SmA] at h ⊢;omega
 | .boxes s l,h=>by rw [SmA] at h ⊢;exact ⟨by omega,SmAs.up hm l h.2⟩
theorem SmAs.up {M M':Nat} (hm:M<=M'):∀ (l:List PA),SmAs M l->SmAs M' l
 | [],_=>by rw [SmAs];trivial
 | a::ar,h=>by rw [SmAs] at h ⊢;exact ⟨SmA.up hm a h.1,SmAs.up hm ar h.2⟩
end
structure Only (g:Nat) (w w':World):Prop where
 os:w'.os=w.os
 tape:w'.tape=w.tape
 output:w'.output=w.output
 size:w.heap.size<=w'.heap.size
 block:∀ k,k < w.heap.size->k≠g->w'.heap[k]?=w.heap[k]?
theorem Only.refl (g:Nat) (w:World):Only g w w:=⟨rfl,rfl,rfl,Nat.le_refl _,fun _ _ _=>rfl⟩
theorem Only.trans {g:Nat}{a b c:World} (h:Only g a b) (k:Only g b c):Only g a c :=
 ⟨k.os.trans h.os,k.tape.trans h.tape,k.output.trans h.output,Nat.le_trans h.size k.size,fun i hi hg=>(k.block i (Nat.lt_of_lt_of_le hi h.size) hg).trans (h.block i hi hg)⟩
theorem Only.set {g:Nat}{a b:World} (h:Only g a b) (i:Nat) (u:Value):Only g a (b.setCell ⟨g,i,none⟩ u):=by
 have hb:=(Below.refl g b).setCell (p:=⟨g,i,none⟩) (Nat.le_refl g) u
 exact h.trans ⟨hb.os,hb.tape,hb.output,hb.size,fun k _ hg=>Below.heap_setCell _ _ _ _ hg⟩
theorem Only.below {g B:Nat}{w0 w w':World} (h:Only g w w') (hb:Below B w0 w) (hB:B<=g) (hg:g < w.heap.size):Below B w0 w' :=
 ⟨h.os.trans hb.os,h.tape.trans hb.tape,h.output.trans hb.output,Nat.le_trans hb.size h.size,fun k hk=>(h.block k (by omega) (by omega)).trans (hb.block k hk)⟩
theorem Only.cell {g:Nat}{w w':World} (h:Only g w w'){b i:Nat}{v:Value} (hc:w.cell? ⟨b,i,none⟩=some v) (hg:b≠g):w'.cell? ⟨b,i,none⟩=some v:=by
 rw [World.cell?_of_block (w:=w) (h.block b (cell_lt hc) hg)];exact hc
def Row64 (w:World) (B g T:Nat) (F:Nat->Int):Prop:=Own1 w B 2 (.slice (some ⟨g,0,none⟩) T T) ((List.range T).map fun j => .int .i64 (F j))
theorem set_map_range {T k:Nat}{f:Nat->Value} (hk:k < T) (u:Value):((List.range T).map f).set k u=(List.range T).map fun j=>if j=k then u else f j:=by
 apply List.ext_getElem?
 intro i
 rw [List.getElem?_set]
 by_cases hi:i < T
 ·by_cases e:k=i
  ·subst e;simp [hk]
  ·have e':¬ i=k:=fun h=>e h.symm
   simp [e,e',hi]
 ·have h1:((List.range T).map f)[i]?=none:=by simp;omega
  have h2:((List.range T).map fun j=>if j=k then u else f j)[i]?=none:=by simp;omega
  rw [h2,if_neg (by omega),h1]
theorem Row64.ow {w:World}{B g T:Nat}{F:Nat->Int} (h:Row64 w B g T F):w.ownsRow B 2 1 (.slice (some ⟨g,0,none⟩) T T) T ((List.range T).map fun j => .int .i64 (F j)):=by
 have:=h
 unfold Row64 Own1 at this
 rw [List.length_map,List.length_range] at this
 exact this
theorem Row64.of_ow {w:World}{B g T:Nat}{F:Nat->Int} (h:w.ownsRow B 2 1 (.slice (some ⟨g,0,none⟩) T T) T ((List.range T).map fun j => .int .i64 (F j))):Row64 w B g T F:=by
 unfold Row64 Own1
 rw [List.length_map,List.length_range]
 exact h
theorem Row64.put {w:World}{B g T:Nat}{F:Nat->Int} (h:Row64 w B g T F){k:Nat} (hk:k < T) (z:Int):Row64 (w.setCell ⟨g,k,none⟩ (.int .i64 z)) B g T (fun j=>if j=k then z else F j):=by
 have h2:=(World.ownsRow.stored h.ow k (.int .i64 z)).1
 rw [set_map_range hk] at h2
 refine Row64.of_ow ?_
 have e:((List.range T).map fun j=>Value.int .i64 (if j=k then z else F j))=(List.range T).map fun j=>if j=k then .int .i64 z else .int .i64 (F j):=by
  apply List.map_congr_left
  intro j _
  split <;> rfl
 rw [e]
 exact h2
theorem Row64.cell {w:World}{B g T:Nat}{F:Nat->Int} (h:Row64 w B g T F){k:Nat} (hk:k < T):w.cell? ⟨g,k,none⟩=some (.int .i64 (F k)):=by
 have:=World.ownsRow.cellAt h.ow k (by omega)
 rw [this]
 simp [hk]
theorem Row64.frozen {w:World}{B g T:Nat}{F:Nat->Int} (h:Row64 w B g T F) (k:Nat):w.frozen? ⟨g,k,none⟩=false:=World.ownsRow.frozenAt h.ow k
theorem Row64.low {w:World}{B g T:Nat}{F:Nat->Int} (h:Row64 w B g T F):B<=g/\g < w.heap.size:=World.ownsRow.lt h.ow g rfl
structure Ar2 (w:World) (p q:V8) (e:TypeId) (f:Nat->Value) (z:Value) (N c:Nat) (W:World):Prop where
 st:St2 w W p q
 fill:Fill W (w.heap.size+3) (w.heap.size+3) e f z N c
theorem Ar2.step {w W W':World}{p q:V8}{e:TypeId}{f:Nat->Value}{z:Value}{N c:Nat} (h:Ar2 w p q e f z N c W) (hb:Below W.heap.size W W'):Ar2 w p q e f z N c W':=⟨h.st.step hb,h.fill.below hb⟩
theorem Ar2.dr {w W:World}{p q:V8}{e:TypeId}{f:Nat->Value}{z:Value}{N c:Nat} (h:Ar2 w p q e f z N c W):Ar2 w p q e f z N c W.drew:=h.step (Below.refl _ W).drew
theorem Ar2.self {w W:World}{p q:V8}{e:TypeId}{f:Nat->Value}{z:Value}{N c:Nat} (h:Ar2 w p q e f z N c W):Ar2 w p q e f z N c W:=h
theorem Ar2.new (w:World) (p q:V8) (e:TypeId) (f:Nat->Value) (z:Value) (N:Nat) (hN:N<=maxLen):Ar2 w p q e f z N 0 ((((w.alloc p.o).alloc q.o).alloc (.cells zcells 57)).alloc (.cells (madeCells #[z] N) e)):=by
 have h:=Fill.made (((w.alloc p.o).alloc q.o).alloc (.cells zcells 57)) (w.heap.size+3) (by simp) e f z N hN
 have e3:(((w.alloc p.o).alloc q.o).alloc (.cells zcells 57)).heap.size=w.heap.size+3:=by simp
 rw [e3] at h
 exact ⟨(St2.new w p q).al _,h⟩
theorem Ar2.put {w W:World}{p q:V8}{e:TypeId}{f:Nat->Value}{z:Value}{N c:Nat} (h:Ar2 w p q e f z N c W) (hc:c < N):Ar2 w p q e f z N (c+1) (W.setCell ⟨w.heap.size+3,c,none⟩ (f c)) :=
 ⟨h.st.put (Nat.le_refl _) _,h.fill.put hc⟩
def BitsAt (W:World) (b:Sl) (n:Nat) (L:Nat->Bool):Prop :=
 ∃ g o c,b=(some ⟨g,o,none⟩,(n+63) / 64,c)/\∀ j,j < (n+63) / 64->W.cell? ⟨g,o+j,none⟩=some (.int .u64 (packW L n j:Nat))
theorem BitsAt.below {W W':World}{b:Sl}{n:Nat}{L:Nat->Bool} (h:BitsAt W b n L) (hb:Below W.heap.size W W'):BitsAt W' b n L:=by
 obtain ⟨g,o,c,e,hc⟩:=h
 exact ⟨g,o,c,e,fun j hj=>by rw [hb.cell (cell_lt (hc j hj))];exact hc j hj⟩
theorem BitsAt.row {W:World}{B g n:Nat}{L:Nat->Bool} (h:RowU W B g ((n+63) / 64) (packW L n)):BitsAt W (some ⟨g,0,none⟩,(n+63) / 64,(n+63) / 64) n L :=
 ⟨g,0,_,rfl,fun j hj=>by rw [Nat.zero_add];exact h.cell hj⟩
theorem BitsAt.in {W:World}{b:Sl}{n:Nat}{L:Nat->Bool} (h:BitsAt W b n L):BitsIn W (.agg #[.slice b.1 b.2.1 b.2.2,.int .i64 (n:Int)]) n L:=by
 obtain ⟨g,o,c,rfl,hc⟩:=h
 exact ⟨g,o,c,rfl,hc⟩
theorem NumV.bits {b:Sl}{bn:Int}{s i f g x:Sl}{m:Nat}{F:Nat->Nat}{w:World} (h:NumV (vecW 1 b bn s i f g x) 1 m F w):bn=(m:Int)/\∃ L,BitsAt w b m L/\∀ j,j < m->F j=flagF (L j):=by
 obtain ⟨l,s',e,hb,hf⟩:=h.bitsX rfl
 injection e with e
 have e1:=congrArg (fun a:Array Value=>a.getD 1 undef) e
 have e2:=congrArg (fun a:Array Value=>a.getD 2 undef) e
 have e1':Value.slice b.1 b.2.1 b.2.2=s':=e1
 have e2':Value.int .i64 bn= .int .i64 (m:Int):=e2
 injection e2' with _ e3
 refine ⟨e3,l,?_,hf⟩
 obtain ⟨g2,o,c,ev,hc⟩:=hb
 injection ev with ev
 have e4:=congrArg (fun a:Array Value=>a.getD 0 undef) ev
 have e4':s'= .slice (some ⟨g2,o,none⟩) ((m+63) / 64) c:=e4
 rw [<- e1'] at e4'
 injection e4' with h1 h2 h3
 exact ⟨g2,o,c,by rw [<- h1,<- h2,<- h3],hc⟩
structure Sb (w W:World) (p:V8):Prop where
 one:BoxP W w.heap.size p
 res:W.heap[w.heap.size+1]?=some (.cells bcells 52)
 bel:Below w.heap.size w W
theorem Sb.step {w W W':World}{p:V8} (h:Sb w W p) (hb:Below W.heap.size W W'):Sb w W' p :=
 ⟨h.one.below hb,by rw [hb.block _ (lt_of_block h.res)];exact h.res,bel_both h.bel hb⟩
theorem Sb.new (w:World) (p:V8):Sb w ((w.alloc p.o).alloc (.cells bcells 52)) p:=by
 have h2:=heap_alloc_new (w.alloc p.o) (.cells bcells 52)
 have e1:(w.alloc p.o).heap.size=w.heap.size+1:=by simp
 rw [e1] at h2
 exact ⟨(boxP_new w p).below (bel1 _ _),h2,bel2 w _ _⟩
theorem Sb.sz {w W:World}{p:V8} (h:Sb w W p):w.heap.size+1 < W.heap.size:=lt_of_block h.res
end Go.Proofs.YtbakjaliponbbaaGreatDoor
