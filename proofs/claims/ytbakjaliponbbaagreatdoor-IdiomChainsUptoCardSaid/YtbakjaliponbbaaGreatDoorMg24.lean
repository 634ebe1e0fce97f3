/- The walks of vec.Whole at the one element of an array, value.Rank and base.Iota. Printed by gen_iio.py. What the twelve chains tell, and what their functions .. Conditions: as each theorem says. -/
import Derived.Test.YtbakjaliponbbaaGreatDoorMg23
import Derived.Test.YtbakjaliponbbaaGreatDoorMg12
import Derived.Test.YtbakjaliponbbaaGreatDoorMg21
import Derived.Test.YtbakjaliponbbaaGreatDoorMg22
import Derived.Test.YtbakjaliponbbaaGreatDoorMg03
import Derived.Test.YtbakjaliponbbaaGreatDoorMg05
set_option maxRecDepth 100000
set_option maxHeartbeats 2000000
namespace Go.Proofs.YtbakjaliponbbaaGreatDoor
open Go Go.RowKit Go.Proofs Fl
noncomputable def whV:PA->Option Int
 | .nums _ l=>wholeP (l.getD 0 0)
 | _=>none
noncomputable def iotaN (a:PA) (most:Nat):Option Nat :=
 if a.len=1/\a.shape.length<=1 then
  match whV a with
  | some z=>if 0<=z/\z<=(most:Int) then some z.toNat else none
  | none=>none
 else none
def WhR (o:Option Int) (w:World) (e:Ending) (w':World):Prop:=e= .returned (.tuple #[.int .i64 (o.getD 0),.bool o.isSome])/\Below w.heap.size w w'
theorem vrank_any (h:Sl) (p:V8) (w:World):Calls Tryz.prog 200 #[arrV h p] w fun e w'=>e= .returned (.int .i64 (h.2.1:Int))/\Below w.heap.size w w':=by
 have HB:=Lib.hid (bel1 w (arrO h p))
 obtain ⟨hA,hn,hc⟩:=h
 go_enter Tryz.func200,Tryz.ntmps200
 go_wp2
 go_ret
 exact ⟨rfl,HB.out⟩
theorem vwhole_no (p:V8) (hk:p.k=5\/p.k=6) (w:World) (hin:∀ W,Below w.heap.size w W->Calls Tryz.prog 187 #[p.v,.int .i64 0] W fun e w'=>e= .returned (.bool true)/\Below W.heap.size W w'):Calls Tryz.prog 201 #[p.v,.int .i64 0] w (WhR none w):=by
 have HS0:=Lib.hid (V1B.new w p)
 have HIN:=Lib.hid hin
 have k1:(p.k==1)=false:=by rw [beq_eq_false_iff_ne];omega
 have k2:(p.k==2)=false:=by rw [beq_eq_false_iff_ne];omega
 have k3:(p.k==3)=false:=by rw [beq_eq_false_iff_ne];omega
 unfold WhR
 clear hk hin
 go_enter Tryz.func201,Tryz.ntmps201
 obtain ⟨c0,c1,c2,c3,c4,c5,c6,c7⟩:=HS0.out.one
 go_wp2_with fail
 refine (HIN.out _ HS0.out.bel).mono ?_
 rintro e w1 ⟨rfl,hb⟩
 have HS1:=Lib.hid (HS0.out.step hb)
 clear hb c0 c1 c2 c3 c4 c5 c6 c7 HS0
 obtain ⟨c0,c1,c2,c3,c4,c5,c6,c7⟩:=HS1.out.one
 go_wp2
 go_ret2
 exact ⟨rfl,HS1.out.bel⟩
theorem vwhole_any {H:Nat->Prop}{w:World}{a:PA}{h:Sl}{p:V8} (g:AV H w a h p) (hl:a.len=1) (W:World) (hb:Below w.heap.size w W):Calls Tryz.prog 201 #[p.v,.int .i64 0] W (WhR (whV a) W):=by
 have g2:=AV.step g hb
 cases a with
 | nums s l =>
  rcases g2.nums with g3 | ⟨rfl,_⟩
  ·have hn:=g3.num.now
   have hl1:0 < l.length:=by have:l.length=1:=hl;omega
   by_cases h4:p.k=4
   ·have hw:wholeP (l.getD 0 0)=none:=by
     have h5:=g3.least
     have h6:l.length=1:=hl
     rw [h6,h4] at h5
     have h7:leastF (fun j=>l.getD j 0) 1=rankF (l.getD 0 0):=by
      have h8:=rankF_le (l.getD 0 0)
      simp only [leastF]
      omega
     rw [h7] at h5
     cases hh:wholeP (l.getD 0 0) with
     | none=>rfl
     | some z =>
      have h9:=rankS_le z
      have h10:rankF (l.getD 0 0)=rankS z:=by unfold rankF;rw [hh]
      omega
    show Calls _ _ _ _ (WhR (wholeP (l.getD 0 0)) W)
    rw [hw]
    exact hn.wholeF h4 0 hl1
   ·obtain ⟨z,hg,hz⟩:=hn.ints h4 0 hl1
    have hw:wholeP (l.getD 0 0)=some z:=by rw [hz];exact wholeP_fi hg
    show Calls _ _ _ _ (WhR (wholeP (l.getD 0 0)) W)
    rw [hw]
    exact hn.wholeI h4 0 hl1 z hg hz
  ·exact absurd hl (show ¬ (0:Nat)=1 by decide)
 | chars s l =>
  obtain ⟨c,rfl,-⟩:=g2.chars
  exact vwhole_no _ (.inl rfl) W fun W' hb'=>in_any _ _ _ _ _ _ _ _ 1 0 (by decide) W' fun W9 hb9=>by
   have h1:=av_len g W9 (bel_both hb (bel_both hb' hb9))
   rw [hl] at h1
   exact h1
 | boxes s l =>
  have hl9:l.length=1:=hl
  obtain ⟨A,n,cc,rfl,-⟩:=g2.boxes
  exact vwhole_no _ (.inr rfl) W fun W' hb'=>in_any _ _ _ _ _ _ _ _ 1 0 (by decide) W' fun W9 hb9=>by
   have h1:=av_len g W9 (bel_both hb (bel_both hb' hb9))
   rw [hl] at h1
   exact h1
def IoR (H:Nat->Prop) (w:World) (o:Nat) (r:Option Nat) (e:Ending) (w':World):Prop :=
 match r with
 | some n=>∃ h p,e= .returned (.tuple #[arrV h p,.int .i64 0])/\AVN H w' n (fun j=>fi ((j+o:Nat):Int)) h p/\Below w.heap.size w w'
 | none=>∃ z:Int,z≠0/\e= .returned (.tuple #[arrV nilS zeroP,.int .i64 z])/\Below w.heap.size w w'
theorem ioR_no {H:Nat->Prop}{w w':World}{o:Nat}{z:Int} (hz:z≠0) (hb:Below w.heap.size w w'):IoR H w o none (.returned (.tuple #[arrV nilS zeroP,.int .i64 z])) w':=⟨z,hz,rfl,hb⟩
theorem ioR_yes {H:Nat->Prop}{w w':World}{o n:Nat}{h:Sl}{p:V8} (g:AVN H w' n (fun j=>fi ((j+o:Nat):Int)) h p) (hb:Below w.heap.size w w'):IoR H w o (some n) (.returned (.tuple #[arrV h p,.int .i64 0])) w':=⟨h,p,rfl,g,hb⟩
theorem iota_len {Ha:Nat->Prop}{a:PA}{h:Sl}{p:V8} (w:World) (g:AV Ha w a h p) (o most:Nat) (hl:¬ a.len=1):Calls Tryz.prog 148 #[arrV h p,.int .i64 (o:Int),.int .i64 (most:Int)] w (IoR Ha w o none):=by
 have HSG:=Lib.hid (fun W (hb:Below w.heap.size w W)=>single_any (AV.step g hb))
 have hs1:((a.len:Int)==1)=false:=by rw [beq_eq_false_iff_ne];omega
 rw [hs1] at HSG
 have HS0:=Lib.hid (A1.new w h p)
 clear g hs1 hl
 go_enter Tryz.func148,Tryz.ntmps148
 obtain ⟨c0,c1,c2,c3,c4,c5,c6,c7,c8⟩:=HS0.out.one.c
 go_wp2_with fail
 refine (HSG.out _ HS0.out.bel).mono ?_
 rintro e w2 ⟨rfl,hb2⟩
 have HS2:=Lib.hid (HS0.out.step hb2)
 clear hb2 c0 c1 c2 c3 c4 c5 c6 c7 c8 HS0
 obtain ⟨c0,c1,c2,c3,c4,c5,c6,c7,c8⟩:=HS2.out.one.c
 obtain ⟨⟨y0,y1,y2,y3,y4,y5,y6,y7,y8⟩,yz⟩:=zero_block HS2.out.res
 have HBE:Hid (Below w.heap.size w (set9 _ (w.heap.size+1) (.slice none 0 0) (.int .i64 0) (.slice none 0 0) (.int .i64 0) (.slice none 0 0) (.slice none 0 0) (.slice none 0 0) (.slice none 0 0) (.slice none 0 0))):=below_set9 HS2.out.bel (Nat.le_succ _) _ _ _ _ _ _ _ _ _
 have HRE:=Lib.hid (set9_block HS2.out.res (.slice none 0 0) (.int .i64 0) (.slice none 0 0) (.int .i64 0) (.slice none 0 0) (.slice none 0 0) (.slice none 0 0) (.slice none 0 0) (.slice none 0 0))
 go_wp2
 refine bodyPost_ret (v := .tuple #[arrV nilS zeroP,.int .i64 22]) ?_ rfl (ioR_no (by decide) HBE.out)
 exact ret_arr2 (fn:=Tryz.f148) (p:=6) (u:=7) rfl _ _ (w.heap.size+1) (by rfl) HRE.out
theorem iota_rank {Ha:Nat->Prop}{a:PA}{h:Sl}{p:V8} (w:World) (g:AV Ha w a h p) (o most:Nat) (hl:a.len=1) (hr:1 < a.shape.length):Calls Tryz.prog 148 #[arrV h p,.int .i64 (o:Int),.int .i64 (most:Int)] w (IoR Ha w o none):=by
 have HSG:=Lib.hid (fun W (hb:Below w.heap.size w W)=>single_any (AV.step g hb))
 have hs1:((a.len:Int)==1)=true:=by rw [hl];rfl
 rw [hs1] at HSG
 have hrk:h.2.1=a.shape.length:=g.shape.len
 have HS0:=Lib.hid (A1.new w h p)
 have hr2:(1:Int) < (h.2.1:Int):=by omega
 clear g hs1 hl hrk hr
 go_enter Tryz.func148,Tryz.ntmps148
 obtain ⟨c0,c1,c2,c3,c4,c5,c6,c7,c8⟩:=HS0.out.one.c
 go_wp2_with fail
 refine (HSG.out _ HS0.out.bel).mono ?_
 rintro e w2 ⟨rfl,hb2⟩
 have HS2:=Lib.hid (HS0.out.step hb2)
 clear hb2 c0 c1 c2 c3 c4 c5 c6 c7 c8 HS0
 obtain ⟨c0,c1,c2,c3,c4,c5,c6,c7,c8⟩:=HS2.out.one.c
 go_wp2_with fail
 refine (vrank_any h p _).mono ?_
 rintro e w3 ⟨rfl,hb3⟩
 have HS3:=Lib.hid (HS2.out.step hb3)
 clear hb3 c0 c1 c2 c3 c4 c5 c6 c7 c8 HS2
 obtain ⟨c0,c1,c2,c3,c4,c5,c6,c7,c8⟩:=HS3.out.one.c
 obtain ⟨⟨y0,y1,y2,y3,y4,y5,y6,y7,y8⟩,yz⟩:=zero_block HS3.out.res
 have HBE:Hid (Below w.heap.size w (set9 _ (w.heap.size+1) (.slice none 0 0) (.int .i64 0) (.slice none 0 0) (.int .i64 0) (.slice none 0 0) (.slice none 0 0) (.slice none 0 0) (.slice none 0 0) (.slice none 0 0))):=below_set9 HS3.out.bel (Nat.le_succ _) _ _ _ _ _ _ _ _ _
 have HRE:=Lib.hid (set9_block HS3.out.res (.slice none 0 0) (.int .i64 0) (.slice none 0 0) (.int .i64 0) (.slice none 0 0) (.slice none 0 0) (.slice none 0 0) (.slice none 0 0) (.slice none 0 0))
 go_wp2
 refine bodyPost_ret (v := .tuple #[arrV nilS zeroP,.int .i64 22]) ?_ rfl (ioR_no (by decide) HBE.out)
 exact ret_arr2 (fn:=Tryz.f148) (p:=6) (u:=7) rfl _ _ (w.heap.size+1) (by rfl) HRE.out
theorem iota_none {Ha:Nat->Prop}{a:PA}{h:Sl}{p:V8} (w:World) (g:AV Ha w a h p) (o most:Nat) (hl:a.len=1) (hr:a.shape.length<=1) (hw:whV a=none):Calls Tryz.prog 148 #[arrV h p,.int .i64 (o:Int),.int .i64 (most:Int)] w (IoR Ha w o none):=by
 have HSG:=Lib.hid (fun W (hb:Below w.heap.size w W)=>single_any (AV.step g hb))
 have hs1:((a.len:Int)==1)=true:=by rw [hl];rfl
 rw [hs1] at HSG
 have hrk:h.2.1=a.shape.length:=g.shape.len
 have HWH:=Lib.hid (fun W (hb:Below w.heap.size w W)=>vwhole_any g hl W hb)
 rw [hw] at HWH
 unfold WhR at HWH
 dsimp only [Option.getD_none,Option.getD_some,Option.isSome_none,Option.isSome_some] at HWH
 have HS0:=Lib.hid (A1.new w h p)
 have hr2:¬ (1:Int) < (h.2.1:Int):=by omega
 clear g hs1 hl hrk hr hw
 go_enter Tryz.func148,Tryz.ntmps148
 obtain ⟨c0,c1,c2,c3,c4,c5,c6,c7,c8⟩:=HS0.out.one.c
 go_wp2_with fail
 refine (HSG.out _ HS0.out.bel).mono ?_
 rintro e w2 ⟨rfl,hb2⟩
 have HS2:=Lib.hid (HS0.out.step hb2)
 clear hb2 c0 c1 c2 c3 c4 c5 c6 c7 c8 HS0
 obtain ⟨c0,c1,c2,c3,c4,c5,c6,c7,c8⟩:=HS2.out.one.c
 go_wp2_with fail
 refine (vrank_any h p _).mono ?_
 rintro e w3 ⟨rfl,hb3⟩
 have HS3:=Lib.hid (HS2.out.step hb3)
 clear hb3 c0 c1 c2 c3 c4 c5 c6 c7 c8 HS2
 obtain ⟨c0,c1,c2,c3,c4,c5,c6,c7,c8⟩:=HS3.out.one.c
 go_wp2_with fail
 refine (HWH.out _ HS3.out.bel).mono ?_
 rintro e w4 ⟨rfl,hb4⟩
 have HS4:=Lib.hid (HS3.out.step hb4)
 clear hb4 c0 c1 c2 c3 c4 c5 c6 c7 c8 HS3
 obtain ⟨c0,c1,c2,c3,c4,c5,c6,c7,c8⟩:=HS4.out.one.c
 obtain ⟨⟨y0,y1,y2,y3,y4,y5,y6,y7,y8⟩,yz⟩:=zero_block HS4.out.res
 have HBE:Hid (Below w.heap.size w (set9 _ (w.heap.size+1) (.slice none 0 0) (.int .i64 0) (.slice none 0 0) (.int .i64 0) (.slice none 0 0) (.slice none 0 0) (.slice none 0 0) (.slice none 0 0) (.slice none 0 0))):=below_set9 HS4.out.bel (Nat.le_succ _) _ _ _ _ _ _ _ _ _
 have HRE:=Lib.hid (set9_block HS4.out.res (.slice none 0 0) (.int .i64 0) (.slice none 0 0) (.int .i64 0) (.slice none 0 0) (.slice none 0 0) (.slice none 0 0) (.slice none 0 0) (.slice none 0 0))
 go_wp2
 refine bodyPost_ret (v := .tuple #[arrV nilS zeroP,.int .i64 24]) ?_ rfl (ioR_no (by decide) HBE.out)
 exact ret_arr2 (fn:=Tryz.f148) (p:=6) (u:=7) rfl _ _ (w.heap.size+1) (by rfl) HRE.out
theorem iota_neg {Ha:Nat->Prop}{a:PA}{h:Sl}{p:V8} (w:World) (g:AV Ha w a h p) (o most:Nat) (hl:a.len=1) (hr:a.shape.length<=1) (z:Int) (hw:whV a=some z) (hz:z < 0):Calls Tryz.prog 148 #[arrV h p,.int .i64 (o:Int),.int .i64 (most:Int)] w (IoR Ha w o none):=by
 have HSG:=Lib.hid (fun W (hb:Below w.heap.size w W)=>single_any (AV.step g hb))
 have hs1:((a.len:Int)==1)=true:=by rw [hl];rfl
 rw [hs1] at HSG
 have hrk:h.2.1=a.shape.length:=g.shape.len
 have HWH:=Lib.hid (fun W (hb:Below w.heap.size w W)=>vwhole_any g hl W hb)
 rw [hw] at HWH
 unfold WhR at HWH
 dsimp only [Option.getD_none,Option.getD_some,Option.isSome_none,Option.isSome_some] at HWH
 have HS0:=Lib.hid (A1.new w h p)
 have hr2:¬ (1:Int) < (h.2.1:Int):=by omega
 clear g hs1 hl hrk hr hw
 go_enter Tryz.func148,Tryz.ntmps148
 obtain ⟨c0,c1,c2,c3,c4,c5,c6,c7,c8⟩:=HS0.out.one.c
 go_wp2_with fail
 refine (HSG.out _ HS0.out.bel).mono ?_
 rintro e w2 ⟨rfl,hb2⟩
 have HS2:=Lib.hid (HS0.out.step hb2)
 clear hb2 c0 c1 c2 c3 c4 c5 c6 c7 c8 HS0
 obtain ⟨c0,c1,c2,c3,c4,c5,c6,c7,c8⟩:=HS2.out.one.c
 go_wp2_with fail
 refine (vrank_any h p _).mono ?_
 rintro e w3 ⟨rfl,hb3⟩
 have HS3:=Lib.hid (HS2.out.step hb3)
 clear hb3 c0 c1 c2 c3 c4 c5 c6 c7 c8 HS2
 obtain ⟨c0,c1,c2,c3,c4,c5,c6,c7,c8⟩:=HS3.out.one.c
 go_wp2_with fail
 refine (HWH.out _ HS3.out.bel).mono ?_
 rintro e w4 ⟨rfl,hb4⟩
 have HS4:=Lib.hid (HS3.out.step hb4)
 clear hb4 c0 c1 c2 c3 c4 c5 c6 c7 c8 HS3
 obtain ⟨c0,c1,c2,c3,c4,c5,c6,c7,c8⟩:=HS4.out.one.c
 obtain ⟨⟨y0,y1,y2,y3,y4,y5,y6,y7,y8⟩,yz⟩:=zero_block HS4.out.res
 have HBE:Hid (Below w.heap.size w (set9 _ (w.heap.size+1) (.slice none 0 0) (.int .i64 0) (.slice none 0 0) (.int .i64 0) (.slice none 0 0) (.slice none 0 0) (.slice none 0 0) (.slice none 0 0) (.slice none 0 0))):=below_set9 HS4.out.bel (Nat.le_succ _) _ _ _ _ _ _ _ _ _
 have HRE:=Lib.hid (set9_block HS4.out.res (.slice none 0 0) (.int .i64 0) (.slice none 0 0) (.int .i64 0) (.slice none 0 0) (.slice none 0 0) (.slice none 0 0) (.slice none 0 0) (.slice none 0 0))
 go_wp2
 refine bodyPost_ret (v := .tuple #[arrV nilS zeroP,.int .i64 24]) ?_ rfl (ioR_no (by decide) HBE.out)
 exact ret_arr2 (fn:=Tryz.f148) (p:=6) (u:=7) rfl _ _ (w.heap.size+1) (by rfl) HRE.out
theorem iota_big {Ha:Nat->Prop}{a:PA}{h:Sl}{p:V8} (w:World) (g:AV Ha w a h p) (o most:Nat) (hl:a.len=1) (hr:a.shape.length<=1) (n:Nat) (hw:whV a=some (n:Int)) (hz:most < n):Calls Tryz.prog 148 #[arrV h p,.int .i64 (o:Int),.int .i64 (most:Int)] w (IoR Ha w o none):=by
 have HSG:=Lib.hid (fun W (hb:Below w.heap.size w W)=>single_any (AV.step g hb))
 have hs1:((a.len:Int)==1)=true:=by rw [hl];rfl
 rw [hs1] at HSG
 have hrk:h.2.1=a.shape.length:=g.shape.len
 have HWH:=Lib.hid (fun W (hb:Below w.heap.size w W)=>vwhole_any g hl W hb)
 rw [hw] at HWH
 unfold WhR at HWH
 dsimp only [Option.getD_none,Option.getD_some,Option.isSome_none,Option.isSome_some] at HWH
 have HS0:=Lib.hid (A1.new w h p)
 have hr2:¬ (1:Int) < (h.2.1:Int):=by omega
 have hz0:¬ (n:Int) < 0:=by omega
 have hz1:(most:Int) < (n:Int):=by omega
 clear hz
 clear g hs1 hl hrk hr hw
 go_enter Tryz.func148,Tryz.ntmps148
 obtain ⟨c0,c1,c2,c3,c4,c5,c6,c7,c8⟩:=HS0.out.one.c
 go_wp2_with fail
 refine (HSG.out _ HS0.out.bel).mono ?_
 rintro e w2 ⟨rfl,hb2⟩
 have HS2:=Lib.hid (HS0.out.step hb2)
 clear hb2 c0 c1 c2 c3 c4 c5 c6 c7 c8 HS0
 obtain ⟨c0,c1,c2,c3,c4,c5,c6,c7,c8⟩:=HS2.out.one.c
 go_wp2_with fail
 refine (vrank_any h p _).mono ?_
 rintro e w3 ⟨rfl,hb3⟩
 have HS3:=Lib.hid (HS2.out.step hb3)
 clear hb3 c0 c1 c2 c3 c4 c5 c6 c7 c8 HS2
 obtain ⟨c0,c1,c2,c3,c4,c5,c6,c7,c8⟩:=HS3.out.one.c
 go_wp2_with fail
 refine (HWH.out _ HS3.out.bel).mono ?_
 rintro e w4 ⟨rfl,hb4⟩
 have HS4:=Lib.hid (HS3.out.step hb4)
 clear hb4 c0 c1 c2 c3 c4 c5 c6 c7 c8 HS3
 obtain ⟨c0,c1,c2,c3,c4,c5,c6,c7,c8⟩:=HS4.out.one.c
 go_upto_region 7 with fail
 obtain ⟨⟨y0,y1,y2,y3,y4,y5,y6,y7,y8⟩,yz⟩:=zero_block HS4.out.res
 have HBE:Hid (Below w.heap.size w (set9 _ (w.heap.size+1) (.slice none 0 0) (.int .i64 0) (.slice none 0 0) (.int .i64 0) (.slice none 0 0) (.slice none 0 0) (.slice none 0 0) (.slice none 0 0) (.slice none 0 0))):=below_set9 HS4.out.bel (Nat.le_succ _) _ _ _ _ _ _ _ _ _
 have HRE:=Lib.hid (set9_block HS4.out.res (.slice none 0 0) (.int .i64 0) (.slice none 0 0) (.int .i64 0) (.slice none 0 0) (.slice none 0 0) (.slice none 0 0) (.slice none 0 0) (.slice none 0 0))
 go_wp2
 refine bodyPost_ret (v := .tuple #[arrV nilS zeroP,.int .i64 26]) ?_ rfl (ioR_no (by decide) HBE.out)
 exact ret_arr2 (fn:=Tryz.f148) (p:=6) (u:=7) rfl _ _ (w.heap.size+1) (by rfl) HRE.out
theorem a1_set {w W:World}{h:Sl}{p:V8} (g:A1 w W h p){G:Nat} (hG:w.heap.size+2<=G) (i:Nat) (u:Value):A1 w (W.setCell ⟨G,i,none⟩ u) h p:=by
 have hb:Below (w.heap.size+2) W (W.setCell ⟨G,i,none⟩ u):=(Below.refl _ _).setCell hG _
 have e0:=hb.block w.heap.size (by omega)
 refine ⟨At9.of g.one fun _=>World.cell?_of_block (w:=W) e0,?_,g.bel.trans (hb.mono (by omega))⟩
 rw [hb.block _ (by omega)]
 exact g.res
theorem iota_ok {Ha:Nat->Prop}{a:PA}{h:Sl}{p:V8} (w:World) (g:AV Ha w a h p) (o most:Nat) (hl:a.len=1) (hr:a.shape.length<=1) (n:Nat) (hw:whV a=some (n:Int)) (hn:n<=most) (hm:most<=1000000) (ho:o<=1) (hHa:∀ b,Ha b->b < w.heap.size):Calls Tryz.prog 148 #[arrV h p,.int .i64 (o:Int),.int .i64 (most:Int)] w (IoR Ha w o (some n)):=by
 have HSG:=Lib.hid (fun W (hb:Below w.heap.size w W)=>single_any (AV.step g hb))
 have hs1:((a.len:Int)==1)=true:=by rw [hl];rfl
 rw [hs1] at HSG
 have hrk:h.2.1=a.shape.length:=g.shape.len
 have HWH:=Lib.hid (fun W (hb:Below w.heap.size w W)=>vwhole_any g hl W hb)
 rw [hw] at HWH
 unfold WhR at HWH
 dsimp only [Option.getD_none,Option.getD_some,Option.isSome_none,Option.isSome_some] at HWH
 have HS0:=Lib.hid (A1.new w h p)
 have hr2:¬ (1:Int) < (h.2.1:Int):=by omega
 have hz0:¬ (n:Int) < 0:=by omega
 have hz1:¬ (most:Int) < (n:Int):=by omega
 have HH:=Lib.hid hHa
 have hnb:n<=1000000:=by omega
 have hmk:=make_int n (by omega)
 clear g hs1 hl hrk hr hw hHa
 go_enter Tryz.func148,Tryz.ntmps148
 obtain ⟨c0,c1,c2,c3,c4,c5,c6,c7,c8⟩:=HS0.out.one.c
 go_wp2_with fail
 refine (HSG.out _ HS0.out.bel).mono ?_
 rintro e w2 ⟨rfl,hb2⟩
 have HS2:=Lib.hid (HS0.out.step hb2)
 clear hb2 c0 c1 c2 c3 c4 c5 c6 c7 c8 HS0
 obtain ⟨c0,c1,c2,c3,c4,c5,c6,c7,c8⟩:=HS2.out.one.c
 go_wp2_with fail
 refine (vrank_any h p _).mono ?_
 rintro e w3 ⟨rfl,hb3⟩
 have HS3:=Lib.hid (HS2.out.step hb3)
 clear hb3 c0 c1 c2 c3 c4 c5 c6 c7 c8 HS2
 obtain ⟨c0,c1,c2,c3,c4,c5,c6,c7,c8⟩:=HS3.out.one.c
 go_wp2_with fail
 refine (HWH.out _ HS3.out.bel).mono ?_
 rintro e w4 ⟨rfl,hb4⟩
 have HS4:=Lib.hid (HS3.out.step hb4)
 clear hb4 c0 c1 c2 c3 c4 c5 c6 c7 c8 HS3
 obtain ⟨c0,c1,c2,c3,c4,c5,c6,c7,c8⟩:=HS4.out.one.c
 have HF0:Hid (Fill (w4.alloc (.cells (madeCells #[.int .i64 0] n) 3)) (w.heap.size+2) w4.heap.size 3 (fun j => .int .i64 (j:Int)) (.int .i64 0) n 0):=Fill.made w4 (w.heap.size+2) (A1.sz HS4.out) 3 _ (.int .i64 0) n (by unfold maxLen;omega)
 have HS5:=Lib.hid (HS4.out.step (bel1 w4 (.cells (madeCells #[.int .i64 0] n) 3)))
 obtain ⟨G,hG⟩:∃ G,G=w4.heap.size:=⟨_,rfl⟩
 have HGG:Hid (w.heap.size+2<=G):=by unfold Hid;rw [hG];exact A1.sz HS4.out
 clear c0 c1 c2 c3 c4 c5 c6 c7 c8 HSG HWH
 go_wp2
 rw [<- hG] at HF0 ⊢
 clear hG hmk HS4
 go_loopw [44] (fun iv wr=>∃ i:Nat,i<=n/\iv= .int .i64 (i:Int)/\Fill wr (w.heap.size+2) G 3 (fun j => .int .i64 (j:Int)) (.int .i64 0) n i/\A1 w wr h p) (fun iv _=>n - (intOf iv).toNat)
 case atStart=>exact ⟨0,Nat.zero_le _,rfl,HF0.out,HS5.out⟩
 case round =>
  obtain ⟨i,hi,rfl,hf,ha1⟩:=hrel
  have HF:=Lib.hid hf
  have HA:=Lib.hid ha1
  clear hf ha1 HF0 HS5
  by_cases hlt:i < n
  ·have hlt2:(i:Int) < (n:Int):=by omega
   have hfz:=HF.out.frozen i
   have hc0:=HF.out.cell hlt
   have HPU:=Lib.hid (HF.out.put hlt)
   have HAU:Hid (A1 w (wr.setCell ⟨G,i,none⟩ (.int .i64 (i:Int))) h p):=a1_set HA.out HGG.out _ _
   go_wp2
   go_roundw
   case rel=>exact ⟨i+1,by omega,by go_num,HPU.out,HAU.out⟩
   case measure=>simp [intOf];omega
  ·have hge:¬ (i:Int) < (n:Int):=by omega
   obtain rfl:i=n:=by omega
   have HBI:=Lib.hid (bints_any (.slice (some ⟨G,0,none⟩) i i) i o (fun j=>j) (fun b=>Ha b\/b=w.heap.size+1) wr (fun b e=>by
    have h9:=A1.sz HA.out
    have h8:=HA.out.bel.size
    rcases e with e | e
    ·have:=HH.out b e;omega
    ·omega) hnb ho (fun j hj=>by omega) HF.out.own.reads)
   unfold AaN at HBI
   go_wp2_with fail
   refine HBI.out.mono ?_
   rintro e w6 ⟨hh,q,rfl,hav,hb6⟩
   have HS9:=Lib.hid (HA.out.step hb6)
   have HAV:Hid (AVN Ha (set9 w6 (w.heap.size+1) (sv hh) (.int .i64 q.k) (.slice q.b.1 q.b.2.1 q.b.2.2) (.int .i64 q.bn) (.slice q.s.1 q.s.2.1 q.s.2.2) (.slice q.i.1 q.i.2.1 q.i.2.2) (.slice q.f.1 q.f.2.1 q.f.2.2) (.slice q.c.1 q.c.2.1 q.c.2.2) (.slice q.x.1 q.x.2.1 q.x.2.2)) i (fun j=>fi ((j+o:Nat):Int)) hh q) :=
    AVN.sub (H:=fun b=>Ha b\/b=w.heap.size+1) (fun b _ e => .inl e) (AVN.lat (Lat.set9 (G:=w.heap.size+1) (.inr rfl) _ _ _ _ _ _ _ _ _) hav)
   have HBE:Hid (Below w.heap.size w (set9 w6 (w.heap.size+1) (sv hh) (.int .i64 q.k) (.slice q.b.1 q.b.2.1 q.b.2.2) (.int .i64 q.bn) (.slice q.s.1 q.s.2.1 q.s.2.2) (.slice q.i.1 q.i.2.1 q.i.2.2) (.slice q.f.1 q.f.2.1 q.f.2.2) (.slice q.c.1 q.c.2.1 q.c.2.2) (.slice q.x.1 q.x.2.1 q.x.2.2))):=below_set9 HS9.out.bel (Nat.le_succ _) _ _ _ _ _ _ _ _ _
   have HRE:=Lib.hid (set9_block HS9.out.res (sv hh) (.int .i64 q.k) (.slice q.b.1 q.b.2.1 q.b.2.2) (.int .i64 q.bn) (.slice q.s.1 q.s.2.1 q.s.2.2) (.slice q.i.1 q.i.2.1 q.i.2.2) (.slice q.f.1 q.f.2.1 q.f.2.2) (.slice q.c.1 q.c.2.1 q.c.2.2) (.slice q.x.1 q.x.2.1 q.x.2.2))
   obtain ⟨⟨y0,y1,y2,y3,y4,y5,y6,y7,y8⟩,yz⟩:=zero_block HS9.out.res
   clear hav hb6
   go_wp2
   refine bodyPost_ret (v := .tuple #[arrV hh q,.int .i64 0]) ?_ rfl (ioR_yes HAV.out HBE.out)
   exact ret_arr2 (fn:=Tryz.f148) (p:=6) (u:=7) rfl _ _ (w.heap.size+1) (by rfl) HRE.out
theorem iota_any {Ha:Nat->Prop}{a:PA}{h:Sl}{p:V8} (w:World) (g:AV Ha w a h p) (o most:Nat) (hm:most<=1000000) (ho:o<=1) (hHa:∀ b,Ha b->b < w.heap.size):Calls Tryz.prog 148 #[arrV h p,.int .i64 (o:Int),.int .i64 (most:Int)] w (IoR Ha w o (iotaN a most)):=by
 unfold iotaN
 by_cases hl:a.len=1
 ·by_cases hr:a.shape.length<=1
  ·rw [if_pos ⟨hl,hr⟩]
   cases hw:whV a with
   | none=>exact iota_none w g o most hl hr hw
   | some z =>
    by_cases hz:0<=z
    ·by_cases hz2:z<=(most:Int)
     ·obtain ⟨n,rfl⟩:∃ n:Nat,z=(n:Int):=⟨z.toNat,by omega⟩
      dsimp only
      rw [if_pos ⟨hz,hz2⟩,Int.toNat_natCast]
      exact iota_ok w g o most hl hr n hw (by omega) hm ho hHa
     ·dsimp only
      rw [if_neg (fun e=>hz2 e.2)]
      obtain ⟨n,rfl⟩:∃ n:Nat,z=(n:Int):=⟨z.toNat,by omega⟩
      exact iota_big w g o most hl hr n hw (by omega)
    ·dsimp only
     rw [if_neg (fun e=>hz e.1)]
     exact iota_neg w g o most hl hr z hw (by omega)
  ·rw [if_neg (fun e=>hr e.2)]
   exact iota_rank w g o most hl (by omega)
 ·rw [if_neg (fun e=>hl e.1)]
  exact iota_len w g o most hl
theorem keyF_ex:∃ key:Nat->Int,∀ a b,TF a->TF b->cmpF a b=compare (key a) (key b):=by
 refine ⟨fun a=>@dite _ (TF a) (Classical.propDecidable _) (fun h=>sg h.choose h.choose_spec.choose) (fun _=>0),fun a b ha hb=>?_⟩
 dsimp only
 rw [dif_pos ha,dif_pos hb]
 obtain ⟨hz,e1,-⟩:=ha.choose_spec.choose_spec
 obtain ⟨hy,e2,-⟩:=hb.choose_spec.choose_spec
 have h:=order_W ha.choose hb.choose hz hy
 rw [<- e1,<- e2] at h
 unfold cmpF
 rw [h]
 rfl
noncomputable def keyF:Nat->Int:=keyF_ex.choose
theorem keyF_cmp {a b:Nat} (ha:TF a) (hb:TF b):cmpF a b=compare (keyF a) (keyF b):=keyF_ex.choose_spec a b ha hb
theorem cmpF_lt {a b:Nat} (ha:TF a) (hb:TF b):cmpF a b= .lt↔keyF a < keyF b:=by rw [keyF_cmp ha hb];exact Int.compare_eq_lt
noncomputable def kE:RI->Int
 | .mk kind num char _=>if kind=0 then keyF num else char
noncomputable def ltE (x y:RI):Bool:=decide (kE x < kE y)
def extN (lt:Nat->Nat->Bool):Nat->Nat
 | 0=>0
 | i+1=>if lt i (extN lt i) then i else extN lt i
theorem extN_lt (lt:Nat->Nat->Bool):∀ i,0 < i->extN lt i < i
 | 0,h=>absurd h (by decide)
 | 1,_=>by rw [extN];split <;> (first | decide | (rw [extN];decide))
 | i+2,_=>by
  rw [extN]
  split
  ·omega
  ·have:=extN_lt lt (i+1) (by omega);omega
theorem extN_le (lt:Nat->Nat->Bool) (i:Nat):extN lt i<=i:=by
 cases i with
 | zero=>exact Nat.le_refl _
 | succ i=>have:=extN_lt lt (i+1) (by omega);omega
theorem extN_law {K:Nat->Int}{lt:Nat->Nat->Bool} (hlt:∀ i j,lt i j=decide (K i < K j)):∀ i,(∀ k,k < i->K (extN lt i)<=K k)/\∀ k,k < extN lt i->K (extN lt i) < K k
 | 0=>⟨fun k h=>absurd h (Nat.not_lt_zero _),fun k h=>absurd h (Nat.not_lt_zero _)⟩
 | i+1=>by
  obtain ⟨h1,h2⟩:=extN_law hlt i
  rw [extN]
  by_cases h:K i < K (extN lt i)
  ·rw [if_pos (by rw [hlt];exact decide_eq_true h)]
   exact ⟨fun k hk=>by
    by_cases e:k=i
    ·rw [e];exact Int.le_refl _
    ·have:=h1 k (by omega);omega,fun k hk=>by have:=h1 k hk;omega⟩
  ·rw [if_neg (by rw [hlt];simpa using h)]
   exact ⟨fun k hk=>by
    by_cases e:k=i
    ·rw [e];omega
    ·exact h1 k (by omega),h2⟩
def pkA (s:List Nat) (a:PA) (idx:List Nat):PA :=
 match a with
 | .nums _ l => .nums s (idx.map fun i=>l.getD i 0)
 | .chars _ l => .chars s (idx.map fun i=>l.getD i 0)
 | .boxes _ l => .boxes s (idx.map fun i=>l.getD i default)
theorem rawBs_map:∀ l:List PA,rawBs l=l.map fun a=>RI.mk 2 0 0 [rawP a]
 | []=>by rw [rawBs];rfl
 | a::l=>by rw [rawBs,rawBs_map l];rfl
theorem raw_pk (s:List Nat) (a:PA) (idx:List Nat):rawP (pkA s a idx)= .mk (s.map Int.ofNat) (idx.map (elA a)) a.fill:=by
 cases a with
 | nums t l=>rw [pkA,rawP,List.map_map];rfl
 | chars t l=>rw [pkA,rawP,List.map_map];rfl
 | boxes t l=>rw [pkA,rawP,rawBs_map,List.map_map];rfl
theorem pkA_len (s:List Nat) (a:PA) (idx:List Nat):(pkA s a idx).len=idx.length:=by cases a <;> simp [pkA,PA.len]
theorem pkA_shape (s:List Nat) (a:PA) (idx:List Nat):(pkA s a idx).shape=s:=by cases a <;> rfl
theorem pkA_fill (s:List Nat) (a:PA) (idx:List Nat):(pkA s a idx).fill=a.fill:=by cases a <;> rfl
theorem pkA_part {s:List Nat}{a:PA}{idx:List Nat}{i k:Nat} (h:idx[i]?=some k) (hk:k < a.len):partA (pkA s a idx) i=partA a k:=by
 obtain ⟨hi,e⟩:=List.getElem?_eq_some_iff.1 h
 have e1:ixP (List.length idx) i=i:=ixP_in hi
 have e2:ixP a.len k=k:=ixP_in hk
 cases a with
 | nums t l =>
  show PA.nums [] [(idx.map fun i=>l.getD i 0).getD (ixP (idx.map fun i=>l.getD i 0).length i) 0]=PA.nums [] [l.getD (ixP l.length k) 0]
  rw [List.length_map,e1,show ixP l.length k=k from e2]
  simp [List.getD,hi,e]
 | chars t l =>
  show PA.chars [] [(idx.map fun i=>l.getD i 0).getD (ixP (idx.map fun i=>l.getD i 0).length i) 0]=PA.chars [] [l.getD (ixP l.length k) 0]
  rw [List.length_map,e1,show ixP l.length k=k from e2]
  simp [List.getD,hi,e]
 | boxes t l =>
  show (idx.map fun i=>l.getD i default).getD (ixP (idx.map fun i=>l.getD i default).length i) default=l.getD (ixP l.length k) default
  rw [List.length_map,e1,show ixP l.length k=k from e2]
  simp [List.getD,hi,e]
def oneA (z:Int):PA := .nums [] [fi z]
def listA (l:List Int):PA := .nums [l.length] (l.map fi)
def numsA:PA->List Nat
 | .nums _ l=>l
 | .chars _ l=>l.map fun _=>0
 | .boxes _ l=>l.map fun _=>0
def aheadN (L:Nat->Nat->Bool) (i:Nat):Nat->Nat
 | 0=>0
 | k+1=>aheadN L i k+if k≠i/\L k i=true then 1 else 0
def gradeN (L:Nat->Nat->Bool) (n:Nat):Nat->Nat->Nat
 | 0,_=>0
 | m+1,p=>if p=aheadN L m n then m else gradeN L n m p
theorem aheadN_le (L:Nat->Nat->Bool) (i:Nat):∀ n,aheadN L i n<=n
 | 0=>Nat.le_refl _
 | n+1=>by
  rw [aheadN]
  have:=aheadN_le L i n
  split <;> omega
theorem aheadN_lt (L:Nat->Nat->Bool) (i:Nat):∀ n,i < n->aheadN L i n < n
 | 0,h=>absurd h (Nat.not_lt_zero _)
 | n+1,h=>by
  rw [aheadN]
  by_cases e:n=i
  ·rw [if_neg (fun h2=>h2.1 e)]
   have:=aheadN_le L i n;omega
  ·have:=aheadN_lt L i n (by omega)
   split <;> omega
theorem aheadN_zero {L:Nat->Nat->Bool}{i:Nat}:∀ {n:Nat},(∀ k,k < n->k≠i->L k i=false)->aheadN L i n=0
 | 0,_=>rfl
 | n+1,h=>by
  rw [aheadN,aheadN_zero (fun k hk hn=>h k (by omega) hn),if_neg]
  rintro ⟨h1,h2⟩
  rw [h n (by omega) h1] at h2
  cases h2
theorem aheadN_pos {L:Nat->Nat->Bool}{i e:Nat}:∀ {n:Nat},e < n->e≠i->L e i=true->aheadN L i n≠0
 | 0,h,_,_=>absurd h (Nat.not_lt_zero _)
 | n+1,h,hn,hl=>by
  rw [aheadN]
  by_cases en:n=e
  ·subst en
   rw [if_pos ⟨hn,hl⟩]
   omega
  ·have:=aheadN_pos (n:=n) (by omega) hn hl
   omega
theorem gradeN_lt (L:Nat->Nat->Bool) (n:Nat) (h0:0 < n) (p:Nat):∀ m,m<=n->gradeN L n m p < n
 | 0,_=>by rw [gradeN];exact h0
 | m+1,h=>by
  rw [gradeN]
  split
  ·omega
  ·exact gradeN_lt L n h0 p m (by omega)
theorem gradeN_first {L:Nat->Nat->Bool}{n e:Nat} (he:e < n) (h0:aheadN L e n=0) (h1:∀ i,i < n->i≠e->aheadN L i n≠0):∀ m,m<=n->gradeN L n m 0=if e < m then e else 0
 | 0,_=>by rw [gradeN,if_neg (Nat.not_lt_zero _)]
 | m+1,h=>by
  rw [gradeN]
  by_cases em:m=e
  ·subst em
   rw [if_pos h0.symm,if_pos (by omega)]
  ·rw [if_neg (fun h2=>h1 m (by omega) em h2.symm),gradeN_first he h0 h1 m (by omega)]
   by_cases h3:e < m
   ·rw [if_pos h3,if_pos (by omega)]
   ·rw [if_neg h3,if_neg (by omega)]
noncomputable def cellsE (el:Nat->RI) (i k:Nat):Nat->Nat->Int
 | 0,_=>0
 | m+1,j=>if ltE (el (i+j)) (el (k+j)) then -1 else if ltE (el (k+j)) (el (i+j)) then 1 else cellsE el i k m (j+1)
noncomputable def lessE (el:Nat->RI) (size:Nat) (down:Bool) (i k:Nat):Bool :=
 let c:=if down then 0 - cellsE el (i*size) (k*size) size 0 else cellsE el (i*size) (k*size) size 0
 decide (c < 0)||(decide (c=0)&&decide (i < k))
noncomputable def ltX (el:Nat->RI) (down:Bool) (i j:Nat):Bool:=if down then ltE (el j) (el i) else ltE (el i) (el j)
theorem cellsE_one (el:Nat->RI) (i k:Nat):cellsE el (i*1) (k*1) 1 0=if kE (el i) < kE (el k) then -1 else if kE (el k) < kE (el i) then 1 else 0:=by
 rw [cellsE,cellsE,Nat.mul_one,Nat.mul_one,Nat.add_zero,Nat.add_zero]
 unfold ltE
 simp only [decide_eq_true_eq]
theorem grade_ext (el:Nat->RI) (down:Bool) (n:Nat) (hn:0 < n):gradeN (lessE el 1 down) n n 0=extN (ltX el down) n:=by
 obtain ⟨K,hK⟩:∃ K:Nat->Int,K=fun i=>if down then - kE (el i) else kE (el i):=⟨_,rfl⟩
 have hl:∀ i j,ltX el down i j=decide (K i < K j):=fun i j=>by
  subst hK
  unfold ltX ltE
  cases down <;> simp
 obtain ⟨h1,h2⟩:=extN_law hl n
 have he:=extN_lt (ltX el down) n hn
 obtain ⟨e,hee⟩:∃ e,e=extN (ltX el down) n:=⟨_,rfl⟩
 rw [<- hee] at h1 h2 he ⊢
 have hL:∀ i k,lessE el 1 down i k=(decide (K i < K k)||(decide (K i=K k)&&decide (i < k))):=fun i k=>by
  subst hK
  unfold lessE
  rw [cellsE_one]
  cases down with
  | false =>
   rcases Int.lt_trichotomy (kE (el i)) (kE (el k)) with h | h | h
   ·simp [h]
   ·simp [h]
   ·have h3:¬ kE (el i) < kE (el k):=by omega
    have h4:¬ kE (el i)=kE (el k):=by omega
    simp [h,h3,h4]
  | true =>
   rcases Int.lt_trichotomy (kE (el i)) (kE (el k)) with h | h | h
   ·have h3:¬ - kE (el i) < - kE (el k):=by omega
    have h4:¬ kE (el i)=kE (el k):=by omega
    have h5:¬ kE (el k) < kE (el i):=by omega
    simp [h,h4,h5]
   ·simp [h]
   ·have h3:¬ kE (el i) < kE (el k):=by omega
    simp [h,h3]
 rw [gradeN_first he ?_ ?_ n (Nat.le_refl _),if_pos he]
 ·refine aheadN_zero fun k hk hn2=>?_
  rw [hL]
  have h3:=h1 k hk
  have h4:¬ K k < K e:=by omega
  rw [decide_eq_false h4,Bool.false_or]
  by_cases h5:k < e
  ·have h6:=h2 k h5
   rw [decide_eq_false (show ¬ K k=K e by omega),Bool.false_and]
  ·rw [decide_eq_false h5,Bool.and_false]
 ·intro i hi hie
  refine aheadN_pos he (Ne.symm hie) ?_
  rw [hL]
  have h3:=h1 i hi
  by_cases h4:K e < K i
  ·rw [decide_eq_true h4,Bool.true_or]
  ·have h5:K e=K i:=by omega
   have h6:e < i:=by
    rcases Nat.lt_trichotomy e i with h | h | h
    ·exact h
    ·exact absurd h.symm hie
    ·have:=h2 i h;omega
   rw [decide_eq_true h5,decide_eq_true h6,Bool.and_true,Bool.or_true]
theorem ret_pl2 {fn:Func}{p u:Tmp} (h:fn.results=#[.cell p 44,.tmp u]) (tmps:Array Value) (w:World) (G:Nat){e:TypeId}{a0 a1 a2:Value}
  (hp:tmps.getD p undef= .pointer (some ⟨G,0,none⟩)) (hg:w.heap[G]?=some (.cells #[a0,a1,a2] e)) :
  (results fn tmps).run Tryz.prog w= .ok (.tuple #[.agg #[a0,a1,a2],tmps.getD u undef]) w:=by
 rw [results_cell_tmp h,hp]
 have:=run_loadVar_row (P:=Tryz.prog) w G e 44 _ (0,0) _ hg Tryz.underlying44 rfl plain_size
 simp [asAddr,Result.andThen,this]
theorem pl_fin {H:Nat->Prop}{W:World}{t:RP}{h5 x5:Sl}{f5:Int}{G:Nat} (hp:PV (fun b=>H b\/b=G) W t h5 x5 f5):PV H (set3 W G (sv h5) (sv x5) (.int .i64 f5)) t h5 x5 f5 :=
 PV.sub (fun _ _ e => .inl e) (PV.lat (Lat.set3 (H:=fun b=>H b\/b=G) (G:=G) (.inr rfl) _ _ _) hp)
structure Rs1 (w W:World):Prop where
 res:W.heap[w.heap.size]?=some (plO nilS nilS 0)
 bel:Below w.heap.size w W
theorem Rs1.step {w W W':World} (s:Rs1 w W) (hb:Below W.heap.size W W'):Rs1 w W':=⟨by rw [hb.block _ (lt_blk s.res)];exact s.res,bel_both s.bel hb⟩
theorem Rs1.new (w:World):Rs1 w (w.alloc (plO nilS nilS 0)):=⟨heap_alloc_new w _,bel1 w _⟩
theorem Rs1.up {w W W':World} (s:Rs1 w W) (hb:Below (w.heap.size+1) W W'):Rs1 w W':=⟨by rw [hb.block _ (Nat.lt_succ_self _)];exact s.res,s.bel.trans (hb.mono (Nat.le_succ _))⟩
theorem P1.up {w W W':World}{h x:Sl}{f:Int} (s:P1 w W h x f) (hb:Below (w.heap.size+2) W W'):P1 w W' h x f:=⟨s.one.of fun j=>World.cell?_of_block (w:=W) (hb.block w.heap.size (by omega)),by rw [hb.block _ (by omega)];exact s.res,s.bel.trans (hb.mono (by omega))⟩
theorem rng_snoc {α:Type} (g:Nat->α) (i:Nat):(List.range i).map g++[g i]=(List.range (i+1)).map g:=by rw [List.range_succ,List.map_append];rfl
structure PB (w W:World) (h x:Sl) (f:Int):Prop where
 one:At3 W w.heap.size 0 h x f
 bel:Below w.heap.size w W
theorem PB.new (w:World) (h x:Sl) (f:Int):PB w (w.alloc (plO h x f)) h x f:=⟨at3_box w h x f,bel1 w _⟩
theorem PB.step {w W W':World}{h x:Sl}{f:Int} (s:PB w W h x f) (hb:Below W.heap.size W W'):PB w W' h x f:=⟨At3.belowP s.one hb,bel_both s.bel hb⟩
theorem PB.up {w W W':World}{h x:Sl}{f:Int} (s:PB w W h x f) (hb:Below (w.heap.size+1) W W'):PB w W' h x f:=⟨s.one.of fun j=>World.cell?_of_block (w:=W) (hb.block w.heap.size (by omega)),s.bel.trans (hb.mono (by omega))⟩
theorem rlist27_any (h x:Sl) (f:Int) (w:World):Calls Tryz.prog 212 #[plV h x f] w fun e w'=>e= .returned (.bool (decide ((h.2.1:Int)<=1)))/\Below w.heap.size w w':=by
 have HS:=Lib.hid (PB.new w h x f)
 go_enter Tryz.func212,Tryz.ntmps212
 obtain ⟨p0,p1,p2⟩:=at3_c HS.out.one
 go_wp2
 go_ret
 exact ⟨rfl,HS.out.bel⟩
theorem rints_any (va:Value) (n o:Nat) (L:Nat->Nat) (H:Nat->Prop) (w:World) (hH:∀ b,H b->b < w.heap.size) (hn:n<=1048576) (ho:o<=1) (hL:∀ j,j < n->L j<=1048576) (hr:Reads1 w va ((List.range n).map fun j => .int .i64 (L j:Int))) :
  Calls Tryz.prog 213 #[va,.int .i64 (o:Int)] w (PlR H w (rawP (.nums [n] ((List.range n).map fun j=>fi ((L j+o:Nat):Int)))) 0):=by
 obtain ⟨A,m,c,rfl,hm,hcell⟩:=map_open hr
 obtain rfl:n=m:=by simpa using hm.symm
 have HCE:Hid (∀ j,j < n->∃ b o9,A=some ⟨b,o9,none⟩/\w.cell? ⟨b,o9+j,none⟩=some (.int .i64 (L j:Int))):=fun j hj=>by
  obtain ⟨b,o9,h1,h2⟩:=hcell j (by simpa using hj)
  exact ⟨b,o9,h1,by rw [h2];simp⟩
 have HH:=Lib.hid hH
 have HL:=Lib.hid hL
 obtain ⟨Z,hZ⟩:∃ Z:Nat->Int,Z=fun j=>((L j+o:Nat):Int):=⟨_,rfl⟩
 have HZ:Hid (∀ j,Z j=(L j:Int)+(o:Int)):=fun j=>by rw [hZ,<- Int.natCast_add]
 rw [show (fun j=>fi ((L j+o:Nat):Int))=fun j=>fi (Z j) from by rw [hZ]]
 have HS0:=Lib.hid (Rs1.new w)
 have HV0:Hid (Own1 (w.alloc (plO nilS nilS 0)) (w.heap.size+1) 96 (.slice none 0 0) ((List.range 0).map fun j=>Value.float .f64 (fi (Z j)))):=Own1.nil _ _ _
 clear hr hm hcell hZ hL hH
 go_enter Tryz.func213,Tryz.ntmps213
 go_wp2
 go_loopw [5,6] (fun vv iv wr=>∃ i:Nat,i<=n/\iv= .int .i64 (i:Int)/\Own1 wr (w.heap.size+1) 96 vv ((List.range i).map fun j=>Value.float .f64 (fi (Z j)))/\Rs1 w wr) (fun _ iv _=>n - (intOf iv).toNat)
 case atStart=>exact ⟨0,Nat.zero_le _,rfl,HV0.out,HS0.out⟩
 case round =>
  obtain ⟨i,hi,rfl,hown,hst⟩:=hrel
  have HOWN:=Lib.hid hown
  have HST:=Lib.hid hst
  obtain ⟨vA,vc,hv⟩:∃ A c,_=Value.slice A ((List.range i).map fun j=>Value.float .f64 (fi (Z j))).length c:=hown.reads.len
  subst hv
  clear hown hst HS0 HV0
  have hsz:w.heap.size+1<=wr.heap.size:=lt_blk HST.out.res
  by_cases hlt:i < n
  ·have hlt2:(i:Int) < (n:Int):=by omega
   obtain ⟨b,o9,rfl,hce⟩:=HCE.out i hlt
   have ce:=cell_up HST.out.bel hce
   have hl1:=HL.out i hlt
   have HSI:Hid (((List.range i).map fun j=>Value.float .f64 (fi (Z j)))++[Value.float .f64 (fi (Z i))]=(List.range (i+1)).map fun j=>Value.float .f64 (fi (Z j))):=rng_snoc _ i
   have hz:=HZ.out i
   rw [hz] at HSI
   have hlen:((List.range i).map fun j=>Value.float .f64 (fi (Z j))).length=i:=by simp
   have HL1:Hid ((((List.range i).map fun j=>Value.float .f64 (fi (Z j))).length+1)*8<=140737488355328):=by unfold Hid;rw [hlen];omega
   have HL2:Hid (((List.range i).map fun j=>Value.float .f64 (fi (Z j))).length+1<=140737488355328):=by unfold Hid;rw [hlen];omega
   generalize L i=y at *
   clear hce hz hlen
   generalize hXX:((List.range i).map fun j=>Value.float .f64 (fi (Z j)))=XX at *
   clear hXX
   go_wp2_with (at_builtin;refine wpList_push1' rfl (.tmp 13) (.tmp 21) 26 96 rfl Tryz.underlying26 (.float .f64 0) 8 info_f64 rfl (w.heap.size+1) _ XX rfl HOWN.out (.float .f64 (fi ((y:Int)+(o:Int)))) rfl wr.heap.size rfl rfl HL1.out HL2.out hsz ?_;intro v' w6 hv' hb';have HB':=Lib.hid (hb' wr (Below.refl _ _));rw [HSI.out] at hv';have HV:=Lib.hid hv';clear hb' hv')
   go_roundw
   case rel=>exact ⟨i+1,by omega,by go_num,HV.out,HST.out.up HB'.out⟩
   case measure=>simp [intOf];omega
  ·have hge:¬ (i:Int) < (n:Int):=by omega
   obtain rfl:i=n:=by omega
   have HRN:=Lib.hid (rnums_any _ ((List.range i).map fun j=>fi (Z j)) (fun b=>H b\/b=w.heap.size) wr (fun b e=>by
    rcases e with e | e
    ·have:=HH.out b e;omega
    ·omega) (by rw [List.map_map];exact HOWN.out.reads) (by simpa using hn))
   simp only [List.length_map,List.length_range] at HRN
   unfold PlR at HRN
   have hlen:((List.range i).map fun j=>Value.float .f64 (fi (Z j))).length=i:=by simp
   rw [hlen]
   clear hlen HOWN
   go_wp2_with fail
   refine HRN.out.mono ?_
   rintro e w5 ⟨h5,x5,rfl,hp5,hb5⟩
   have HS5:=Lib.hid (HST.out.step hb5)
   clear hb5 HRN HST
   have HPV:=Lib.hid (pl_fin hp5)
   have HBE:=Lib.hid (below_set3 HS5.out.bel (Nat.le_refl _) (sv h5) (sv x5) (.int .i64 0))
   have HRE:=Lib.hid (set3_block HS5.out.res (sv h5) (sv x5) (.int .i64 0))
   obtain ⟨⟨z0,z1,z2⟩,zz⟩:=block3 HS5.out.res
   clear hp5
   go_wp2
   refine bodyPost_ret (v:=plV h5 x5 0) ?_ rfl ⟨h5,x5,rfl,HPV.out,HBE.out⟩
   exact ret_plain (fn:=Tryz.f213) (p:=4) rfl _ _ w.heap.size (by rfl) HRE.out
theorem rshape_any {H:Nat->Prop}{w:World}{s:List Nat}{items:List RI}{fill:Int}{h x:Sl}{f:Int} (g:PV H w (.mk (s.map Int.ofNat) items fill) h x f) (hl:s.length<=1048576) (hd:∀ d∈s,d<=1048576) (W:World) (hb:Below w.heap.size w W) (hH:∀ b,H b->b < w.heap.size) :
  Calls Tryz.prog 155 #[plV h x f] W (PlR H W (rawP (.nums [s.length] (s.map fun d:Nat=>fi (d:Int)))) 0):=by
 obtain ⟨hsr,-,-,-⟩:=g.open_
 rw [List.map_map] at hsr
 obtain ⟨A,m,c,he,hm,hcell⟩:=map_open hsr.now
 have HCE:=Lib.hid hcell
 have HM:=Lib.hid hm
 have HH:=Lib.hid hH
 have HB:=Lib.hid hb
 have HD:=Lib.hid hd
 obtain ⟨hA,hn9,hc⟩:=h
 injection he with e1 e2 e3
 dsimp only at e1 e2
 subst e1;subst e2;subst e3
 have hmb:hn9<=1048576:=by omega
 obtain ⟨Z,hZ⟩:∃ Z:List Int,Z=s.map Int.ofNat:=⟨_,rfl⟩
 have HZL:Hid (Z.length=hn9):=by unfold Hid;rw [hZ,List.length_map];exact hm.symm
 have HZE:Hid (∀ i (hi:i < Z.length) (h2:i < s.length),Z[i]=(s[i]:Int)):=fun i hi h2=>by subst hZ;simp
 have hres:rawP (.nums [s.length] (s.map fun d:Nat=>fi (d:Int)))=rawP (.nums [hn9] (Z.map fi)):=by rw [hZ,List.map_map,<- hm];rfl
 rw [hres]
 have HS0:=Lib.hid (P1.new W (hA,hn9,hc) x f)
 obtain ⟨w1,hw1⟩:∃ w1,w1=(W.alloc (plO (hA,hn9,hc) x f)).alloc (plO nilS nilS 0):=⟨_,rfl⟩
 have HW1:=Lib.hid hw1
 rw [<- hw1] at HS0
 have HV0:Hid (Own1 w1 (W.heap.size+2) 96 (.slice none 0 0) ((Z.take 0).map fun z=>Value.float .f64 (fi z))):=Own1.nil _ _ _
 clear g hsr hcell hH hb hd hm hres hZ hl hw1
 go_enter Tryz.func155,Tryz.ntmps155
 go_wp2
 rw [<- HW1.out]
 go_loopw [3,4] (fun vv iv wr=>∃ i:Nat,i<=hn9/\iv= .int .i64 (i:Int)/\Own1 wr (W.heap.size+2) 96 vv ((Z.take i).map fun z=>Value.float .f64 (fi z))/\P1 W wr (hA,hn9,hc) x f) (fun _ iv _=>hn9 - (intOf iv).toNat)
 case atStart=>exact ⟨0,Nat.zero_le _,rfl,HV0.out,HS0.out⟩
 case round =>
  obtain ⟨i,hi,rfl,hown,hst⟩:=hrel
  have HOWN:=Lib.hid hown
  have HST:=Lib.hid hst
  obtain ⟨vA,vc,hv⟩:∃ A c,_=Value.slice A ((Z.take i).map fun z=>Value.float .f64 (fi z)).length c:=hown.reads.len
  subst hv
  clear hown hst HS0 HV0
  have hsz:W.heap.size+2<=wr.heap.size:=HST.out.sz
  obtain ⟨p0,p1,p2⟩:=at3_c HST.out.one
  dsimp only at p0
  have hlen:((Z.take i).map fun z=>Value.float .f64 (fi z)).length=i:=by rw [List.length_map,List.length_take];have:=HZL.out;omega
  by_cases hlt:i < hn9
  ·have hlt2:(i:Int) < (hn9:Int):=by omega
   have his:i < s.length:=by have:=HM.out;omega
   have hiz:i < Z.length:=by have:=HZL.out;omega
   obtain ⟨b,o9,rfl,hce⟩:=HCE.out i his
   have ce:=cell_up (bel_both HB.out HST.out.bel) hce
   have HSI:Hid (((Z.take i).map fun z=>Value.float .f64 (fi z))++[Value.float .f64 (fi (Z[i]))]=(Z.take (i+1)).map fun z=>Value.float .f64 (fi z)):=by
    unfold Hid
    rw [List.take_succ_eq_append_getElem hiz,List.map_append]
    rfl
   rw [HZE.out i hiz his] at HSI
   have hz:=HD.out s[i] (List.getElem_mem _)
   have HL1:Hid ((((Z.take i).map fun z=>Value.float .f64 (fi z)).length+1)*8<=140737488355328):=by unfold Hid;rw [hlen];omega
   have HL2:Hid (((Z.take i).map fun z=>Value.float .f64 (fi z)).length+1<=140737488355328):=by unfold Hid;rw [hlen];omega
   have ce2:wr.cell? ⟨b,o9+i,none⟩=some (.int .i64 ((s[i]:Nat):Int)):=ce
   clear ce hce hlen
   generalize s[i]=y at *
   generalize hXX:((Z.take i).map fun z=>Value.float .f64 (fi z))=XX at *
   clear hXX
   go_wp2_with (at_builtin;refine wpList_push1' rfl (.tmp 12) (.tmp 19) 26 96 rfl Tryz.underlying26 (.float .f64 0) 8 info_f64 rfl (W.heap.size+2) _ XX rfl HOWN.out (.float .f64 (fi (y:Int))) rfl wr.heap.size rfl rfl HL1.out HL2.out hsz ?_;intro v' w6 hv' hb';have HB':=Lib.hid (hb' wr (Below.refl _ _));rw [HSI.out] at hv';have HV:=Lib.hid hv';clear hb' hv')
   go_roundw
   case rel=>exact ⟨i+1,by omega,by go_num,HV.out,HST.out.up HB'.out⟩
   case measure=>simp [intOf];omega
  ·have hge:¬ (i:Int) < (hn9:Int):=by omega
   obtain rfl:i=hn9:=by omega
   have hzl:(Z.map fi).length=i:=by rw [List.length_map];exact HZL.out
   have HRN:=Lib.hid (rnums_any (.slice vA i vc) (Z.map fi) (fun b=>H b\/b=W.heap.size+1) wr (fun b e=>by
    have h1:=HB.out.size
    rcases e with e | e
    ·have:=HH.out b e;omega
    ·omega) (by rw [List.map_map];have h:=HOWN.out.reads;rw [hlen,show Z.take i=Z from by rw [<- HZL.out];exact List.take_length] at h;exact h) (by omega))
   rw [hzl] at HRN
   rw [hlen]
   unfold PlR at HRN
   clear hlen hzl HOWN
   go_wp2_with fail
   refine HRN.out.mono ?_
   rintro e w5 ⟨h5,x5,rfl,hp5,hb5⟩
   have HS5:=Lib.hid (HST.out.step hb5)
   clear hb5 HRN HST p0 p1 p2
   have HPV:=Lib.hid (pl_fin hp5)
   have HBE:=Lib.hid (below_set3 HS5.out.bel (Nat.le_succ _) (sv h5) (sv x5) (.int .i64 0))
   have HRE:=Lib.hid (set3_block HS5.out.res (sv h5) (sv x5) (.int .i64 0))
   obtain ⟨⟨z0,z1,z2⟩,zz⟩:=block3 HS5.out.res
   clear hp5
   go_wp2
   refine bodyPost_ret (v:=plV h5 x5 0) ?_ rfl ⟨h5,x5,rfl,HPV.out,HBE.out⟩
   exact ret_plain (fn:=Tryz.f155) (p:=2) rfl _ _ (W.heap.size+1) (by rfl) HRE.out
def numI:RI->Nat
 | .mk _ n _ _=>n
theorem rnumbers27_any {H:Nat->Prop}{w:World}{s:List Int}{items:List RI}{fill:Int}{h x:Sl}{f:Int} (g:PV H w (.mk s items fill) h x f) (hl:items.length<=1048576) (W:World) (hb:Below w.heap.size w W) :
  Calls Tryz.prog 215 #[plV h x f] W (fun e w'=>∃ A n c,e= .returned (.slice A n c)/\Own1 w' W.heap.size 96 (.slice A n c) (items.map fun t=>Value.float .f64 (numI t))/\Below W.heap.size W w'):=by
 obtain ⟨-,-,hx,hit⟩:=g.open_
 obtain ⟨A,m,cc⟩:=x
 dsimp only at hx hit
 have hmb:m<=1048576:=by omega
 have HM:=Lib.hid hx
 have HIT:=Lib.hid hit
 have HB:=Lib.hid hb
 have HS0:=Lib.hid (PB.new W h (A,m,cc) f)
 have HV0:Hid (Own1 (W.alloc (plO h (A,m,cc) f)) (W.heap.size+1) 96 (.slice none 0 0) ((items.take 0).map fun t=>Value.float .f64 (numI t))):=Own1.nil _ _ _
 clear g hx hit hb hl
 go_enter Tryz.func215,Tryz.ntmps215
 go_wp2
 go_loopw [3,4] (fun vv iv wr=>∃ i:Nat,i<=m/\iv= .int .i64 (i:Int)/\Own1 wr (W.heap.size+1) 96 vv ((items.take i).map fun t=>Value.float .f64 (numI t))/\PB W wr h (A,m,cc) f) (fun _ iv _=>m - (intOf iv).toNat)
 case atStart=>exact ⟨0,Nat.zero_le _,rfl,HV0.out,HS0.out⟩
 case round =>
  obtain ⟨i,hi,rfl,hown,hst⟩:=hrel
  have HOWN:=Lib.hid hown
  have HST:=Lib.hid hst
  obtain ⟨vA,vc,hv⟩:∃ A c,_=Value.slice A ((items.take i).map fun t=>Value.float .f64 (numI t)).length c:=hown.reads.len
  subst hv
  clear hown hst HS0 HV0
  have hsz:W.heap.size+1<=wr.heap.size:=HST.out.one.lt
  obtain ⟨p0,p1,p2⟩:=at3_c HST.out.one
  dsimp only at p1
  have hlen:((items.take i).map fun t=>Value.float .f64 (numI t)).length=i:=by rw [List.length_map,List.length_take];have:=HM.out;omega
  by_cases hlt:i < m
  ·have hlt2:(i:Int) < (m:Int):=by omega
   have h1:i < items.length:=by have:=HM.out;omega
   obtain ⟨b,o,q0,q1,q2,q3,rfl,-,hiv,hce⟩:=HIT.out i h1
   obtain ⟨c0,c1,c2,c3⟩:=hce _ (Lat.below (bel_both HB.out HST.out.bel))
   dsimp only [sv] at c0 c1 c2 c3
   have hnum:numI items[i]=q1:=by
    generalize items[i]=t at hiv
    cases t with
    | mk kind num char box=>rw [IV] at hiv;exact hiv.2.1.symm
   have HSI:Hid (((items.take i).map fun t=>Value.float .f64 (numI t))++[Value.float .f64 q1]=(items.take (i+1)).map fun t=>Value.float .f64 (numI t)):=by
    unfold Hid
    rw [List.take_succ_eq_append_getElem h1,List.map_append,<- hnum]
    rfl
   have HL1:Hid ((((items.take i).map fun t=>Value.float .f64 (numI t)).length+1)*8<=140737488355328):=by unfold Hid;rw [hlen];omega
   have HL2:Hid (((items.take i).map fun t=>Value.float .f64 (numI t)).length+1<=140737488355328):=by unfold Hid;rw [hlen];omega
   clear hce hiv hnum hlen
   generalize hXX:((items.take i).map fun t=>Value.float .f64 (numI t))=XX at *
   clear hXX
   go_wp2_with (at_builtin;refine wpList_push1' rfl (.tmp 12) (.tmp 19) 26 96 rfl Tryz.underlying26 (.float .f64 0) 8 info_f64 rfl (W.heap.size+1) _ XX rfl HOWN.out (.float .f64 q1) rfl wr.heap.size rfl rfl HL1.out HL2.out hsz ?_;intro v' w6 hv' hb';have HB':=Lib.hid (hb' wr (Below.refl _ _));rw [HSI.out] at hv';have HV:=Lib.hid hv';clear hb' hv')
   go_roundw
   case rel=>exact ⟨i+1,by omega,by go_num,HV.out,HST.out.up HB'.out⟩
   case measure=>simp [intOf];omega
  ·have hge:¬ (i:Int) < (m:Int):=by omega
   obtain rfl:i=m:=by omega
   have HOW:Hid (Own1 wr W.heap.size 96 (.slice vA i vc) (items.map fun t=>Value.float .f64 (numI t))):=by
    have h:=HOWN.out
    rw [hlen,show items.take i=items from by rw [HM.out];exact List.take_length] at h
    exact h.lower (by omega)
   rw [hlen]
   clear hlen HOWN
   go_wp2
   go_ret
   exact ⟨_,_,_,rfl,HOW.out,HST.out.bel⟩
def RtR (l:List Nat) (w:World) (e:Ending) (w':World):Prop :=
 ((∀ x∈l,isT x=true)/\∃ A n c,e= .returned (.tuple #[.slice A n c,.bool true])/\Own1 w' w.heap.size 4 (.slice A n c) (l.map fun x=>Value.bool (decide (x=flagF true)))/\Below w.heap.size w w') \/
 ((¬ ∀ x∈l,isT x=true)/\e= .returned (.tuple #[vnil,.bool false])/\Below w.heap.size w w')
theorem rtruths12_any (va:Value) (l:List Nat) (w:World) (hT:∀ x∈l,TF x) (hl:l.length<=1048576) (hr:Reads1 w va (l.map (Value.float .f64))) :
  Calls Tryz.prog 214 #[va] w (RtR l w):=by
 obtain ⟨A,m,c,rfl,hm,hcell⟩:=map_open hr
 have hmb:m<=1048576:=by omega
 have HC:=Lib.hid hcell
 have HM:=Lib.hid hm
 have HT:=Lib.hid hT
 have HV0:Hid (Own1 w w.heap.size 4 (.slice none 0 0) ((l.take 0).map fun x=>Value.bool (decide (x=flagF true)))):=Own1.nil _ _ _
 clear hT hl hr hm hcell
 unfold RtR
 go_enter Tryz.func214,Tryz.ntmps214
 go_wp2
 go_loopw [4,5] (fun vv iv wr=>∃ i:Nat,i<=m/\iv= .int .i64 (i:Int)/\(∀ j (hj:j < l.length),j < i->isT l[j]=true)/\Own1 wr w.heap.size 4 vv ((l.take i).map fun x=>Value.bool (decide (x=flagF true)))/\Below w.heap.size w wr) (fun _ iv _=>m - (intOf iv).toNat)
 case atStart=>exact ⟨0,Nat.zero_le _,rfl,fun j hj h=>absurd h (Nat.not_lt_zero _),HV0.out,Below.refl _ _⟩
 case round =>
  obtain ⟨i,hi,rfl,hal,hown,hbl⟩:=hrel
  have HAL:=Lib.hid hal
  have HOWN:=Lib.hid hown
  have HBL:=Lib.hid hbl
  obtain ⟨vA,vc,hv⟩:∃ A c,_=Value.slice A ((l.take i).map fun x=>Value.bool (decide (x=flagF true))).length c:=hown.reads.len
  subst hv
  clear hal hown hbl HV0
  have hsz:w.heap.size<=wr.heap.size:=HBL.out.size
  have hlen:((l.take i).map fun x=>Value.bool (decide (x=flagF true))).length=i:=by rw [List.length_map,List.length_take];have:=HM.out;omega
  by_cases hlt:i < m
  ·have hlt2:(i:Int) < (m:Int):=by omega
   have h1:i < l.length:=by have:=HM.out;omega
   obtain ⟨b,o,rfl,hce⟩:=HC.out i h1
   have ce:=cell_up HBL.out hce
   have htf:=HT.out l[i] (List.getElem_mem _)
   have e0:=feq_tf htf tf_zero
   have e1:=feq_tf htf tf_one
   have HSI:Hid (((l.take i).map fun x=>Value.bool (decide (x=flagF true)))++[Value.bool (decide (l[i]=flagF true))]=(l.take (i+1)).map fun x=>Value.bool (decide (x=flagF true))):=by
    unfold Hid
    rw [List.take_succ_eq_append_getElem h1,List.map_append]
    rfl
   have HL1:Hid ((((l.take i).map fun x=>Value.bool (decide (x=flagF true))).length+1)*1<=140737488355328):=by unfold Hid;rw [hlen];omega
   have HL2:Hid (((l.take i).map fun x=>Value.bool (decide (x=flagF true))).length+1<=140737488355328):=by unfold Hid;rw [hlen];omega
   have HBAD:Hid (isT l[i]=false->¬ ∀ x∈l,isT x=true):=fun h h2=>by rw [h2 l[i] (List.getElem_mem _)] at h;cases h
   have HNX:Hid (isT l[i]=true->∀ j (hj:j < l.length),j < i+1->isT l[j]=true):=fun h j hj h2=>by
    by_cases e:j=i
    ·subst e;exact h
    ·exact HAL.out j hj (by omega)
   clear hce hlen htf HAL
   generalize l[i]=y at *
   generalize hXX:((l.take i).map fun x=>Value.bool (decide (x=flagF true)))=XX at *
   clear hXX
   by_cases y0:y=0
   ·subst y0
    have f0:FloatKind.f64.format.order 0 0=some .eq:=by decide+kernel
    have f1:(FloatKind.f64.format.order 0 4607182418800017408==some .eq)=false:=by decide+kernel
    have HS2:Hid (XX++[Value.bool false]=(l.take (i+1)).map fun x=>Value.bool (decide (x=flagF true))):=by
     have h:=HSI.out
     rw [show decide ((0:Nat)=flagF true)=false from by decide] at h
     exact h
    clear e0 e1
    go_wp2_with (at_builtin;refine wpList_push1' rfl (.tmp 24) (.tmp 30) 37 4 rfl Tryz.underlying37 (.bool false) 1 info_bool rfl w.heap.size _ XX rfl HOWN.out (.bool false) rfl wr.heap.size rfl rfl HL1.out HL2.out hsz ?_;intro v' w6 hv' hb';have HB':=Lib.hid (hb' wr (Below.refl _ _));rw [HS2.out] at hv';have HV:=Lib.hid hv';clear hb' hv')
    go_roundw
    case rel=>exact ⟨i+1,by omega,by go_num,HNX.out (by decide),HV.out,HBL.out.trans HB'.out⟩
    case measure=>simp [intOf];omega
   ·by_cases y1:y=4607182418800017408
    ·subst y1
     have f0:(FloatKind.f64.format.order 4607182418800017408 0==some .eq)=false:=by decide+kernel
     have f1:FloatKind.f64.format.order 4607182418800017408 4607182418800017408=some .eq:=by decide+kernel
     have f2:¬ FloatKind.f64.format.order 4607182418800017408 0=some .eq:=by decide+kernel
     have HS2:Hid (XX++[Value.bool true]=(l.take (i+1)).map fun x=>Value.bool (decide (x=flagF true))):=by
      have h:=HSI.out
      rw [show decide ((4607182418800017408:Nat)=flagF true)=true from by decide] at h
      exact h
     clear e0 e1 y0
     go_wp2_with (at_builtin;refine wpList_push1' rfl (.tmp 24) (.tmp 30) 37 4 rfl Tryz.underlying37 (.bool false) 1 info_bool rfl w.heap.size _ XX rfl HOWN.out (.bool true) rfl wr.heap.size rfl rfl HL1.out HL2.out hsz ?_;intro v' w6 hv' hb';have HB':=Lib.hid (hb' wr (Below.refl _ _));rw [HS2.out] at hv';have HV:=Lib.hid hv';clear hb' hv')
     go_roundw
     case rel=>exact ⟨i+1,by omega,by go_num,HNX.out (by decide),HV.out,HBL.out.trans HB'.out⟩
     case measure=>simp [intOf];omega
    ·rw [decide_eq_false y0] at e0
     rw [decide_eq_false y1] at e1
     have b0:(FloatKind.f64.format.order y 0 != some .eq)=true:=by rw [bne,e0];rfl
     have b1:(FloatKind.f64.format.order y 4607182418800017408 != some .eq)=true:=by rw [bne,e1];rfl
     have f0:=beq_eq_false_iff_ne.1 e0
     have f1:=beq_eq_false_iff_ne.1 e1
     have HNT:Hid (¬ ∀ x∈l,isT x=true):=HBAD.out (decide_eq_false fun h=>h.elim y0 y1)
     clear y0 y1
     go_wp2
     go_ret2
     exact .inr ⟨HNT.out,rfl,HBL.out⟩
  ·have hge:¬ (i:Int) < (m:Int):=by omega
   obtain rfl:i=m:=by omega
   have HOW:Hid (Own1 wr w.heap.size 4 (.slice vA i vc) (l.map fun x=>Value.bool (decide (x=flagF true)))):=by
    have h:=HOWN.out
    rw [hlen,show l.take i=l from by rw [HM.out];exact List.take_length] at h
    exact h
   have HALL:Hid (∀ x∈l,isT x=true):=fun x hx=>by
    obtain ⟨j,hj,rfl⟩:=List.getElem_of_mem hx
    exact HAL.out j hj (by have:=HM.out;omega)
   rw [hlen]
   clear hlen HOWN
   go_wp2
   go_ret2
   exact .inl ⟨HALL.out,_,_,_,rfl,HOW.out,HBL.out⟩
end Go.Proofs.YtbakjaliponbbaaGreatDoor
