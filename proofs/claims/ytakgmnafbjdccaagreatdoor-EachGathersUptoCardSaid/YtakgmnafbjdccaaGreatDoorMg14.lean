/- The walk of fold.Fold at numbers in any store, n at least .. Conditions: as each theorem says. -/
import Derived.Test.YtakgmnafbjdccaaGreatDoorMg13
set_option maxRecDepth 100000
set_option maxHeartbeats 4000000
namespace Go.Proofs.YtakgmnafbjdccaaGreatDoor
open Go Go.RowKit Go.Proofs Fl
theorem hole_lt {H:Nat->Prop}{w W:World} (hH:∀ b,H b->b < w.heap.size) (hw:Below w.heap.size w W):∀ b,Hole H w W b->b < W.heap.size:=by
 intro b hb
 have hs:=hw.size
 rcases hb with h | h
 ·have:=hH b h;omega
 ·omega
theorem fold_two {pw:Nat->Nat->Nat×Int} (hp:PowIs pw) (H:Nat->Prop) (q:Int) (hq:knownB q=true) (k:Int) (b:Sl) (bn:Int) (s i f c x:Sl) (T outer n inner:Nat) (F:Nat->Nat) (w:World) (hH:∀ b,H b->b < w.heap.size)
  (hT:T=outer*n*inner) (hn:2<=n) (hb1:outer<=1000) (hb2:n<=1000) (hb3:inner<=1000) (hbT:T<=1000000) (hbN:outer*inner<=1000000) (h3:k=3->0 < T)
  (hN:∀ W,Below w.heap.size w W->NumX k b bn s i f c x T F W) (ht:TzTab w) :
  Calls Tryz.prog 96 #[.int .i64 q,vecW k b bn s i f c x,.int .i64 (outer:Int),.int .i64 (n:Int),.int .i64 (inner:Int)] w (FlOut H w (oneP pw q) F n inner (outer*inner)):=by
 have HK:=Lib.hid (fun W=>hq▸known_any q W)
 have HS:=Lib.hid (St.new w k (.slice b.1 b.2.1 b.2.2) bn (.slice s.1 s.2.1 s.2.2) (.slice i.1 i.2.1 i.2.2) (.slice f.1 f.2.1 f.2.2) (.slice c.1 c.2.1 c.2.2) (.slice x.1 x.2.1 x.2.2))
 have HC:=Lib.hid (fun W (hw:Below w.heap.size w W)=>(hN W hw).num.cls)
 have HFL:=Lib.hid (fun W (hw:Below w.heap.size w W)=>ffloats_any hp (Hole H w W) q hq k (.slice b.1 b.2.1 b.2.2) bn (.slice s.1 s.2.1 s.2.2) (.slice i.1 i.2.1 i.2.2) (.slice f.1 f.2.1 f.2.2) (.slice c.1 c.2.1 c.2.2) (.slice x.1 x.2.1 x.2.2) T outer n inner F W (hole_lt hH hw) hT (by omega) hb1 hb2 hb3 hbT hbN (fun W' hw'=>(hN W' (bel_both hw hw')).num))
 have HWH:=Lib.hid (fun (hk4:k≠4) W (hw:Below w.heap.size w W)=>wholes_any k b bn s i f c x T F W hk4 hbT h3 (fun W' hw'=>hN W' (bel_both hw hw')))
 have hz:k≠4->∀ j,j < T->F j=fi (zOf (F j))/\Good (zOf (F j)):=fun hk j hj=>by
  obtain ⟨z,hg,e⟩:=(hN w (Below.refl _ _)).num.ints hk j hj
  have e2:zOf (F j)=z:=by rw [e];exact zOf_of (wholeP_fi hg)
  rw [e2];exact ⟨e,hg⟩
 have HFW:=Lib.hid (fun (hk4:k≠4) W (hw:Below w.heap.size w W) b6 o6 c6 (hc6:∀ j,j < T->W.cell? ⟨b6,o6+j,none⟩=some (.int .i64 (zOf (F j))))=>fwholes_any pw (Hole H w W) q b6 o6 c6 T outer n inner (fun j=>zOf (F j)) F W (hole_lt hH hw) hT (by omega) hb1 hb2 hb3 (by rw [<- hT];exact hbT) hbN (by rw [<- hT];exact hc6) (fun j hj=>(hz hk4 j hj).1) (fun j hj=>(hz hk4 j hj).2))
 have o1:¬ (outer:Int) < 0:=by omega
 have n1:¬ (n:Int) < 0:=by omega
 have r1:¬ (inner:Int) < 0:=by omega
 have e0:((n:Int)==1)=false:=by simp;omega
 have e1:((n:Int)==0)=false:=by simp;omega
 have hkind:=(hN w (Below.refl _ _)).num.kind
 by_cases hP:k=1/\inner=1
 ·obtain ⟨rfl,rfl⟩:=hP
  have HPK:=Lib.hid (fun W=>packed_yes b bn (.slice s.1 s.2.1 s.2.2) (.slice i.1 i.2.1 i.2.2) (.slice f.1 f.2.1 f.2.2) (.slice c.1 c.2.1 c.2.2) (.slice x.1 x.2.1 x.2.2) W)
  have HPD:=Lib.hid (fun W (hw:Below w.heap.size w W)=>by
   obtain ⟨l,hbi,hfl⟩:=(hN W hw).bits rfl
   have hT1:T=outer*n:=by rw [hT,Nat.mul_one]
   rw [hT1] at hbi hfl
   exact packed_any pw (Hole H w W) q hq (.agg #[.slice b.1 b.2.1 b.2.2,.int .i64 bn]) outer n l F W (hole_lt hH hw) (by omega) (by omega) (by omega) hbi hfl (ht.below hw))
  have hwh:=HWH.out (by decide)
  have hfw:=HFW.out (by decide)
  clear HWH HFW
  have HWH:=Lib.hid hwh
  have HFW:=Lib.hid hfw
  rw [Nat.mul_one]
  rw [Nat.mul_one] at HFL HFW
  clear hq hN hp ht hz hkind hH hn hwh hfw hT h3 hbN
  go_enter Tryz.func96,Tryz.ntmps96
  go_wp2_with fail
  refine (HK.out _).mono ?_
  rintro e w1 ⟨rfl,hw⟩
  rw [hw] at HS
  clear hw
  obtain ⟨h0,h1,h2,h3,h4,h5,h6,h7⟩:=HS.out.box
  go_wp2_with fail
  refine (HC.out _ HS.out.bel).mono ?_
  rintro e w2 ⟨rfl,hb2⟩
  have HS2:=Lib.hid (HS.out.step hb2)
  clear hb2 h0 h1 h2 h3 h4 h5 h6 h7 HS
  obtain ⟨h0,h1,h2,h3,h4,h5,h6,h7⟩:=HS2.out.box
  go_wp2_with fail
  refine (HPK.out _).mono ?_
  rintro e w3 ⟨rfl,hb3⟩
  have HS3:=Lib.hid ((HS2.out.step hb3).step (bel1 w3 (.cells #[.slice b.1 b.2.1 b.2.2,.int .i64 bn] 31)))
  have z3:w.heap.size < w3.heap.size:=(HS2.out.step hb3).box.lt
  have z3':w.heap.size+1 < w3.heap.size:=(HS2.out.step hb3).sz
  clear hb3 h0 h1 h2 h3 h4 h5 h6 h7 HS2
  have HPD3:=Lib.hid (HPD.out _ HS3.out.bel)
  go_wp2_with fail
  refine HPD3.out.mono ?_
  rintro e w4 (⟨hall,k5,b5,bn5,s5,i5,f5,c5,x5,rfl,hk5,hb5⟩ | ⟨rfl,hb5⟩)
  ·have HS5:=Lib.hid (HS3.out.step hb5)
   have HSZ:=HS3.out.sz
   have HALL:=Lib.hid hall
   clear hall
   have HK5:=Lib.hid (hk5.sub (H':=fun j=>H j\/j=w.heap.size+1) fun j _ e=>e.imp id fun e=>by have:=HSZ;omega)
   clear hb5 hk5 HSZ
   have z5:w.heap.size < w4.heap.size:=HS5.out.box.lt
   have z5':w.heap.size+1 < w4.heap.size:=HS5.out.sz
   have HKE:=Lib.hid ((HK5.out.set8 (.inr rfl) (.int .i64 k5) (.slice b5.1 b5.2.1 b5.2.2) (.int .i64 bn5) (.slice s5.1 s5.2.1 s5.2.2) (.slice i5.1 i5.2.1 i5.2.2) (.slice f5.1 f5.2.1 f5.2.2) (.slice c5.1 c5.2.1 c5.2.2) (.slice x5.1 x5.2.1 x5.2.2)).sub (H':=H) fun _ _ e => .inl e)
   have HBE:=Lib.hid (below_set8 HS5.out.bel (Nat.le_succ _) (.int .i64 k5) (.slice b5.1 b5.2.1 b5.2.2) (.int .i64 bn5) (.slice s5.1 s5.2.1 s5.2.2) (.slice i5.1 i5.2.1 i5.2.2) (.slice f5.1 f5.2.1 f5.2.2) (.slice c5.1 c5.2.1 c5.2.2) (.slice x5.1 x5.2.1 x5.2.2))
   have HRE:=Lib.hid (set8_block HS5.out.res (.int .i64 k5) (.slice b5.1 b5.2.1 b5.2.2) (.int .i64 bn5) (.slice s5.1 s5.2.1 s5.2.2) (.slice i5.1 i5.2.1 i5.2.2) (.slice f5.1 f5.2.1 f5.2.2) (.slice c5.1 c5.2.1 c5.2.2) (.slice x5.1 x5.2.1 x5.2.2))
   obtain ⟨⟨h0,h1,h2,h3,h4,h5,h6,h7⟩,hz⟩:=boxed_of HS5.out.res
   go_wp2
   refine bodyPost_ret (v := .tuple #[vecW k5 b5 bn5 s5 i5 f5 c5 x5,.int .i64 0]) ?_ rfl (.inl ⟨HALL.out,k5,b5,bn5,s5,i5,f5,c5,x5,rfl,HKE.out.step (bel1 _ _),bel_both HBE.out (bel1 _ _)⟩)
   exact ret_vec2 (fn:=Tryz.f96) (p:=10) (u:=11) rfl _ _ (w.heap.size+1) (by rfl) ((Below.heap_alloc _ _ _ (lt_of_block HRE.out)).trans HRE.out)
  ·have HS4:=Lib.hid ((HS3.out.step hb5).step (bel1 w4 (.cells zcells 38)))
   have z4:w.heap.size < w4.heap.size:=(HS3.out.step hb5).box.lt
   have z4':w.heap.size+1 < w4.heap.size:=(HS3.out.step hb5).sz
   clear hb5 HS3 HPD3
   have HSQa:=(HS4.out).sz
   clear HSQa
   have HWW:=Lib.hid (HWH.out (w4.alloc (.cells zcells 38)) HS4.out.bel)
   obtain ⟨h0,h1,h2,h3,h4,h5,h6,h7⟩:=HS4.out.box
   go_wp2_with fail
   refine HWW.out.mono ?_
   clear h0 h1 h2 h3 h4 h5 h6 h7
   rintro e w6 ⟨b6,o6,c6,rfl,hc6,hb6⟩
   have HS6:=Lib.hid (HS4.out.step hb6)
   have HFW6:=Lib.hid (HFW.out w6 HS6.out.bel b6 o6 c6 hc6)
   clear hc6 hb6
   go_wp2_with fail
   refine HFW6.out.mono ?_
   rintro e w7 (⟨hall,k5,b5,bn5,s5,i5,f5,c5,x5,rfl,hk5,hb5⟩ | ⟨rfl,hb5⟩)
   ·have HS5:=Lib.hid (HS6.out.step hb5)
    have HSZ:=HS6.out.sz
    have HALL:=Lib.hid hall
    clear hall
    have HK5:=Lib.hid (hk5.sub (H':=fun j=>H j\/j=w.heap.size+1) fun j _ e=>e.imp id fun e=>by have:=HSZ;omega)
    clear hb5 hk5 HSZ
    have z5:w.heap.size < w7.heap.size:=HS5.out.box.lt
    have z5':w.heap.size+1 < w7.heap.size:=HS5.out.sz
    have HKE:=Lib.hid ((HK5.out.set8 (.inr rfl) (.int .i64 k5) (.slice b5.1 b5.2.1 b5.2.2) (.int .i64 bn5) (.slice s5.1 s5.2.1 s5.2.2) (.slice i5.1 i5.2.1 i5.2.2) (.slice f5.1 f5.2.1 f5.2.2) (.slice c5.1 c5.2.1 c5.2.2) (.slice x5.1 x5.2.1 x5.2.2)).sub (H':=H) fun _ _ e => .inl e)
    have HBE:=Lib.hid (below_set8 HS5.out.bel (Nat.le_succ _) (.int .i64 k5) (.slice b5.1 b5.2.1 b5.2.2) (.int .i64 bn5) (.slice s5.1 s5.2.1 s5.2.2) (.slice i5.1 i5.2.1 i5.2.2) (.slice f5.1 f5.2.1 f5.2.2) (.slice c5.1 c5.2.1 c5.2.2) (.slice x5.1 x5.2.1 x5.2.2))
    have HRE:=Lib.hid (set8_block HS5.out.res (.int .i64 k5) (.slice b5.1 b5.2.1 b5.2.2) (.int .i64 bn5) (.slice s5.1 s5.2.1 s5.2.2) (.slice i5.1 i5.2.1 i5.2.2) (.slice f5.1 f5.2.1 f5.2.2) (.slice c5.1 c5.2.1 c5.2.2) (.slice x5.1 x5.2.1 x5.2.2))
    obtain ⟨⟨h0,h1,h2,h3,h4,h5,h6,h7⟩,hz⟩:=boxed_of HS5.out.res
    go_wp2
    refine bodyPost_ret (v := .tuple #[vecW k5 b5 bn5 s5 i5 f5 c5 x5,.int .i64 0]) ?_ rfl (.inl ⟨HALL.out,k5,b5,bn5,s5,i5,f5,c5,x5,rfl,HKE.out.step (bel1 _ _),bel_both HBE.out (bel1 _ _)⟩)
    exact ret_vec2 (fn:=Tryz.f96) (p:=10) (u:=11) rfl _ _ (w.heap.size+1) (by rfl) ((Below.heap_alloc _ _ _ (lt_of_block HRE.out)).trans HRE.out)
   ·have HS7:=Lib.hid ((HS6.out.step hb5).step (bel1 w7 (.cells zcells 38)))
    have z7:w.heap.size < w7.heap.size:=(HS6.out.step hb5).box.lt
    have z7':w.heap.size+1 < w7.heap.size:=(HS6.out.step hb5).sz
    clear hb5 HS4 HS6
    have HSZ:=(HS7.out).sz
    have HFF:=Lib.hid (HFL.out (w7.alloc (.cells zcells 38)) HS7.out.bel)
    obtain ⟨h0,h1,h2,h3,h4,h5,h6,h7⟩:=HS7.out.box
    go_wp2_with fail
    refine HFF.out.mono ?_
    clear h0 h1 h2 h3 h4 h5 h6 h7
    rintro e w5 (⟨hall,k5,b5,bn5,s5,i5,f5,c5,x5,rfl,hk5,hb5⟩ | ⟨hbad,rfl,hb5⟩)
    ·have HS5:=Lib.hid (HS7.out.step hb5)
     have HALL:=Lib.hid hall
     clear hall
     have HK5:=Lib.hid (hk5.sub (H':=fun j=>H j\/j=w.heap.size+1) fun j _ e=>e.imp id fun e=>by have:=HSZ;omega)
     clear hb5 hk5 HSZ
     have z5:w.heap.size < w5.heap.size:=HS5.out.box.lt
     have z5':w.heap.size+1 < w5.heap.size:=HS5.out.sz
     have HKE:=Lib.hid ((HK5.out.set8 (.inr rfl) (.int .i64 k5) (.slice b5.1 b5.2.1 b5.2.2) (.int .i64 bn5) (.slice s5.1 s5.2.1 s5.2.2) (.slice i5.1 i5.2.1 i5.2.2) (.slice f5.1 f5.2.1 f5.2.2) (.slice c5.1 c5.2.1 c5.2.2) (.slice x5.1 x5.2.1 x5.2.2)).sub (H':=H) fun _ _ e => .inl e)
     have HBE:=Lib.hid (below_set8 HS5.out.bel (Nat.le_succ _) (.int .i64 k5) (.slice b5.1 b5.2.1 b5.2.2) (.int .i64 bn5) (.slice s5.1 s5.2.1 s5.2.2) (.slice i5.1 i5.2.1 i5.2.2) (.slice f5.1 f5.2.1 f5.2.2) (.slice c5.1 c5.2.1 c5.2.2) (.slice x5.1 x5.2.1 x5.2.2))
     have HRE:=Lib.hid (set8_block HS5.out.res (.int .i64 k5) (.slice b5.1 b5.2.1 b5.2.2) (.int .i64 bn5) (.slice s5.1 s5.2.1 s5.2.2) (.slice i5.1 i5.2.1 i5.2.2) (.slice f5.1 f5.2.1 f5.2.2) (.slice c5.1 c5.2.1 c5.2.2) (.slice x5.1 x5.2.1 x5.2.2))
     obtain ⟨⟨h0,h1,h2,h3,h4,h5,h6,h7⟩,hz⟩:=boxed_of HS5.out.res
     go_wp2
     refine bodyPost_ret (v := .tuple #[vecW k5 b5 bn5 s5 i5 f5 c5 x5,.int .i64 0]) ?_ rfl (.inl ⟨HALL.out,k5,b5,bn5,s5,i5,f5,c5,x5,rfl,HKE.out,HBE.out⟩)
     exact ret_vec2 (fn:=Tryz.f96) (p:=10) (u:=11) rfl _ _ (w.heap.size+1) (by rfl) HRE.out
    ·have HS5:=Lib.hid (HS7.out.step hb5)
     have HBAD:=Lib.hid hbad
     clear hbad hb5
     have z5:w.heap.size < w5.heap.size:=HS5.out.box.lt
     have z5':w.heap.size+1 < w5.heap.size:=HS5.out.sz
     obtain ⟨⟨h0,h1,h2,h3,h4,h5,h6,h7⟩,hz⟩:=boxed_of HS5.out.res
     go_wp2
     refine bodyPost_ret (v := .tuple #[vecV 0 vnil 0 vnil vnil vnil vnil vnil,.int .i64 24]) ?_ rfl (.inr ⟨HBAD.out,rfl,below_set8 HS5.out.bel (Nat.le_succ _) _ _ _ _ _ _ _ _⟩)
     exact ret_vec2 (fn:=Tryz.f96) (p:=10) (u:=11) rfl _ _ (w.heap.size+1) (by rfl) (set8_block HS5.out.res _ _ _ _ _ _ _ _)
 ·have hcase:(k=1/\((inner:Int)==1)=false)\/(k≠1/\k≠4)\/(k≠1/\k=4):=by
   rcases hkind with e | e | e | e
   ·left
    refine ⟨e,?_⟩
    have:inner≠1:=fun h=>hP ⟨e,h⟩
    simp;omega
   ·right;left;omega
   ·right;left;omega
   ·right;right;omega
  clear hP
  obtain ⟨N,hNN⟩:∃ N,N=outer*inner:=⟨_,rfl⟩
  rw [<- hNN] at HFL HFW ⊢
  clear hq hN hp ht hz hkind hH hn hT h3 hbN hNN
  rcases hcase with ⟨rfl,e2⟩ | ⟨hk1,hk4⟩ | ⟨hk1,rfl⟩
  ·have HPK:=Lib.hid (fun W=>packed_yes b bn (.slice s.1 s.2.1 s.2.2) (.slice i.1 i.2.1 i.2.2) (.slice f.1 f.2.1 f.2.2) (.slice c.1 c.2.1 c.2.2) (.slice x.1 x.2.1 x.2.2) W)
   have hwh:=HWH.out (by decide)
   have hfw:=HFW.out (by decide)
   clear HWH HFW
   have HWH:=Lib.hid hwh
   have HFW:=Lib.hid hfw
   clear hwh hfw
   go_enter Tryz.func96,Tryz.ntmps96
   go_wp2_with fail
   refine (HK.out _).mono ?_
   rintro e w1 ⟨rfl,hw⟩
   rw [hw] at HS
   clear hw
   obtain ⟨h0,h1,h2,h3,h4,h5,h6,h7⟩:=HS.out.box
   go_wp2_with fail
   refine (HC.out _ HS.out.bel).mono ?_
   rintro e w2 ⟨rfl,hb2⟩
   have HS2:=Lib.hid (HS.out.step hb2)
   clear hb2 h0 h1 h2 h3 h4 h5 h6 h7 HS
   obtain ⟨h0,h1,h2,h3,h4,h5,h6,h7⟩:=HS2.out.box
   go_wp2_with fail
   refine (HPK.out _).mono ?_
   rintro e w3 ⟨rfl,hb3⟩
   have HS3:=Lib.hid ((HS2.out.step hb3).step (bel1 w3 (.cells #[.slice b.1 b.2.1 b.2.2,.int .i64 bn] 31)))
   have z3:w.heap.size < w3.heap.size:=(HS2.out.step hb3).box.lt
   have z3':w.heap.size+1 < w3.heap.size:=(HS2.out.step hb3).sz
   clear hb3 h0 h1 h2 h3 h4 h5 h6 h7 HS2
   have HSQb:=(HS3.out).sz
   clear HSQb
   have HWW:=Lib.hid (HWH.out (w3.alloc (.cells #[.slice b.1 b.2.1 b.2.2,.int .i64 bn] 31)) HS3.out.bel)
   obtain ⟨h0,h1,h2,h3,h4,h5,h6,h7⟩:=HS3.out.box
   go_wp2_with fail
   refine HWW.out.mono ?_
   clear h0 h1 h2 h3 h4 h5 h6 h7
   rintro e w6 ⟨b6,o6,c6,rfl,hc6,hb6⟩
   have HS6:=Lib.hid (HS3.out.step hb6)
   have HFW6:=Lib.hid (HFW.out w6 HS6.out.bel b6 o6 c6 hc6)
   clear hc6 hb6
   go_wp2_with fail
   refine HFW6.out.mono ?_
   rintro e w7 (⟨hall,k5,b5,bn5,s5,i5,f5,c5,x5,rfl,hk5,hb5⟩ | ⟨rfl,hb5⟩)
   ·have HS5:=Lib.hid (HS6.out.step hb5)
    have HSZ:=HS6.out.sz
    have HALL:=Lib.hid hall
    clear hall
    have HK5:=Lib.hid (hk5.sub (H':=fun j=>H j\/j=w.heap.size+1) fun j _ e=>e.imp id fun e=>by have:=HSZ;omega)
    clear hb5 hk5 HSZ
    have z5:w.heap.size < w7.heap.size:=HS5.out.box.lt
    have z5':w.heap.size+1 < w7.heap.size:=HS5.out.sz
    have HKE:=Lib.hid ((HK5.out.set8 (.inr rfl) (.int .i64 k5) (.slice b5.1 b5.2.1 b5.2.2) (.int .i64 bn5) (.slice s5.1 s5.2.1 s5.2.2) (.slice i5.1 i5.2.1 i5.2.2) (.slice f5.1 f5.2.1 f5.2.2) (.slice c5.1 c5.2.1 c5.2.2) (.slice x5.1 x5.2.1 x5.2.2)).sub (H':=H) fun _ _ e => .inl e)
    have HBE:=Lib.hid (below_set8 HS5.out.bel (Nat.le_succ _) (.int .i64 k5) (.slice b5.1 b5.2.1 b5.2.2) (.int .i64 bn5) (.slice s5.1 s5.2.1 s5.2.2) (.slice i5.1 i5.2.1 i5.2.2) (.slice f5.1 f5.2.1 f5.2.2) (.slice c5.1 c5.2.1 c5.2.2) (.slice x5.1 x5.2.1 x5.2.2))
    have HRE:=Lib.hid (set8_block HS5.out.res (.int .i64 k5) (.slice b5.1 b5.2.1 b5.2.2) (.int .i64 bn5) (.slice s5.1 s5.2.1 s5.2.2) (.slice i5.1 i5.2.1 i5.2.2) (.slice f5.1 f5.2.1 f5.2.2) (.slice c5.1 c5.2.1 c5.2.2) (.slice x5.1 x5.2.1 x5.2.2))
    obtain ⟨⟨h0,h1,h2,h3,h4,h5,h6,h7⟩,hz⟩:=boxed_of HS5.out.res
    go_wp2
    refine bodyPost_ret (v := .tuple #[vecW k5 b5 bn5 s5 i5 f5 c5 x5,.int .i64 0]) ?_ rfl (.inl ⟨HALL.out,k5,b5,bn5,s5,i5,f5,c5,x5,rfl,HKE.out.step (bel1 _ _),bel_both HBE.out (bel1 _ _)⟩)
    exact ret_vec2 (fn:=Tryz.f96) (p:=10) (u:=11) rfl _ _ (w.heap.size+1) (by rfl) ((Below.heap_alloc _ _ _ (lt_of_block HRE.out)).trans HRE.out)
   ·have HS7:=Lib.hid ((HS6.out.step hb5).step (bel1 w7 (.cells zcells 38)))
    have z7:w.heap.size < w7.heap.size:=(HS6.out.step hb5).box.lt
    have z7':w.heap.size+1 < w7.heap.size:=(HS6.out.step hb5).sz
    clear hb5 HS3 HS6
    have HSZ:=(HS7.out).sz
    have HFF:=Lib.hid (HFL.out (w7.alloc (.cells zcells 38)) HS7.out.bel)
    obtain ⟨h0,h1,h2,h3,h4,h5,h6,h7⟩:=HS7.out.box
    go_wp2_with fail
    refine HFF.out.mono ?_
    clear h0 h1 h2 h3 h4 h5 h6 h7
    rintro e w5 (⟨hall,k5,b5,bn5,s5,i5,f5,c5,x5,rfl,hk5,hb5⟩ | ⟨hbad,rfl,hb5⟩)
    ·have HS5:=Lib.hid (HS7.out.step hb5)
     have HALL:=Lib.hid hall
     clear hall
     have HK5:=Lib.hid (hk5.sub (H':=fun j=>H j\/j=w.heap.size+1) fun j _ e=>e.imp id fun e=>by have:=HSZ;omega)
     clear hb5 hk5 HSZ
     have z5:w.heap.size < w5.heap.size:=HS5.out.box.lt
     have z5':w.heap.size+1 < w5.heap.size:=HS5.out.sz
     have HKE:=Lib.hid ((HK5.out.set8 (.inr rfl) (.int .i64 k5) (.slice b5.1 b5.2.1 b5.2.2) (.int .i64 bn5) (.slice s5.1 s5.2.1 s5.2.2) (.slice i5.1 i5.2.1 i5.2.2) (.slice f5.1 f5.2.1 f5.2.2) (.slice c5.1 c5.2.1 c5.2.2) (.slice x5.1 x5.2.1 x5.2.2)).sub (H':=H) fun _ _ e => .inl e)
     have HBE:=Lib.hid (below_set8 HS5.out.bel (Nat.le_succ _) (.int .i64 k5) (.slice b5.1 b5.2.1 b5.2.2) (.int .i64 bn5) (.slice s5.1 s5.2.1 s5.2.2) (.slice i5.1 i5.2.1 i5.2.2) (.slice f5.1 f5.2.1 f5.2.2) (.slice c5.1 c5.2.1 c5.2.2) (.slice x5.1 x5.2.1 x5.2.2))
     have HRE:=Lib.hid (set8_block HS5.out.res (.int .i64 k5) (.slice b5.1 b5.2.1 b5.2.2) (.int .i64 bn5) (.slice s5.1 s5.2.1 s5.2.2) (.slice i5.1 i5.2.1 i5.2.2) (.slice f5.1 f5.2.1 f5.2.2) (.slice c5.1 c5.2.1 c5.2.2) (.slice x5.1 x5.2.1 x5.2.2))
     obtain ⟨⟨h0,h1,h2,h3,h4,h5,h6,h7⟩,hz⟩:=boxed_of HS5.out.res
     go_wp2
     refine bodyPost_ret (v := .tuple #[vecW k5 b5 bn5 s5 i5 f5 c5 x5,.int .i64 0]) ?_ rfl (.inl ⟨HALL.out,k5,b5,bn5,s5,i5,f5,c5,x5,rfl,HKE.out,HBE.out⟩)
     exact ret_vec2 (fn:=Tryz.f96) (p:=10) (u:=11) rfl _ _ (w.heap.size+1) (by rfl) HRE.out
    ·have HS5:=Lib.hid (HS7.out.step hb5)
     have HBAD:=Lib.hid hbad
     clear hbad hb5
     have z5:w.heap.size < w5.heap.size:=HS5.out.box.lt
     have z5':w.heap.size+1 < w5.heap.size:=HS5.out.sz
     obtain ⟨⟨h0,h1,h2,h3,h4,h5,h6,h7⟩,hz⟩:=boxed_of HS5.out.res
     go_wp2
     refine bodyPost_ret (v := .tuple #[vecV 0 vnil 0 vnil vnil vnil vnil vnil,.int .i64 24]) ?_ rfl (.inr ⟨HBAD.out,rfl,below_set8 HS5.out.bel (Nat.le_succ _) _ _ _ _ _ _ _ _⟩)
     exact ret_vec2 (fn:=Tryz.f96) (p:=10) (u:=11) rfl _ _ (w.heap.size+1) (by rfl) (set8_block HS5.out.res _ _ _ _ _ _ _ _)
  ·have HPK:=Lib.hid (fun W=>packed_no k hk1 (.slice b.1 b.2.1 b.2.2) bn (.slice s.1 s.2.1 s.2.2) (.slice i.1 i.2.1 i.2.2) (.slice f.1 f.2.1 f.2.2) (.slice c.1 c.2.1 c.2.2) (.slice x.1 x.2.1 x.2.2) W)
   have hwh:=HWH.out hk4
   have hfw:=HFW.out hk4
   clear HWH HFW
   have HWH:=Lib.hid hwh
   have HFW:=Lib.hid hfw
   clear hwh hfw hk1 hk4
   go_enter Tryz.func96,Tryz.ntmps96
   go_wp2_with fail
   refine (HK.out _).mono ?_
   rintro e w1 ⟨rfl,hw⟩
   rw [hw] at HS
   clear hw
   obtain ⟨h0,h1,h2,h3,h4,h5,h6,h7⟩:=HS.out.box
   go_wp2_with fail
   refine (HC.out _ HS.out.bel).mono ?_
   rintro e w2 ⟨rfl,hb2⟩
   have HS2:=Lib.hid (HS.out.step hb2)
   clear hb2 h0 h1 h2 h3 h4 h5 h6 h7 HS
   obtain ⟨h0,h1,h2,h3,h4,h5,h6,h7⟩:=HS2.out.box
   go_wp2_with fail
   refine (HPK.out _).mono ?_
   rintro e w3 ⟨rfl,hb3⟩
   have HS3:=Lib.hid ((HS2.out.step hb3).step (bel1 w3 (.cells #[vnil,.int .i64 0] 31)))
   have z3:w.heap.size < w3.heap.size:=(HS2.out.step hb3).box.lt
   have z3':w.heap.size+1 < w3.heap.size:=(HS2.out.step hb3).sz
   clear hb3 h0 h1 h2 h3 h4 h5 h6 h7 HS2
   have HSQc:=(HS3.out).sz
   clear HSQc
   have HWW:=Lib.hid (HWH.out (w3.alloc (.cells #[vnil,.int .i64 0] 31)) HS3.out.bel)
   obtain ⟨h0,h1,h2,h3,h4,h5,h6,h7⟩:=HS3.out.box
   go_wp2_with fail
   refine HWW.out.mono ?_
   clear h0 h1 h2 h3 h4 h5 h6 h7
   rintro e w6 ⟨b6,o6,c6,rfl,hc6,hb6⟩
   have HS6:=Lib.hid (HS3.out.step hb6)
   have HFW6:=Lib.hid (HFW.out w6 HS6.out.bel b6 o6 c6 hc6)
   clear hc6 hb6
   go_wp2_with fail
   refine HFW6.out.mono ?_
   rintro e w7 (⟨hall,k5,b5,bn5,s5,i5,f5,c5,x5,rfl,hk5,hb5⟩ | ⟨rfl,hb5⟩)
   ·have HS5:=Lib.hid (HS6.out.step hb5)
    have HSZ:=HS6.out.sz
    have HALL:=Lib.hid hall
    clear hall
    have HK5:=Lib.hid (hk5.sub (H':=fun j=>H j\/j=w.heap.size+1) fun j _ e=>e.imp id fun e=>by have:=HSZ;omega)
    clear hb5 hk5 HSZ
    have z5:w.heap.size < w7.heap.size:=HS5.out.box.lt
    have z5':w.heap.size+1 < w7.heap.size:=HS5.out.sz
    have HKE:=Lib.hid ((HK5.out.set8 (.inr rfl) (.int .i64 k5) (.slice b5.1 b5.2.1 b5.2.2) (.int .i64 bn5) (.slice s5.1 s5.2.1 s5.2.2) (.slice i5.1 i5.2.1 i5.2.2) (.slice f5.1 f5.2.1 f5.2.2) (.slice c5.1 c5.2.1 c5.2.2) (.slice x5.1 x5.2.1 x5.2.2)).sub (H':=H) fun _ _ e => .inl e)
    have HBE:=Lib.hid (below_set8 HS5.out.bel (Nat.le_succ _) (.int .i64 k5) (.slice b5.1 b5.2.1 b5.2.2) (.int .i64 bn5) (.slice s5.1 s5.2.1 s5.2.2) (.slice i5.1 i5.2.1 i5.2.2) (.slice f5.1 f5.2.1 f5.2.2) (.slice c5.1 c5.2.1 c5.2.2) (.slice x5.1 x5.2.1 x5.2.2))
    have HRE:=Lib.hid (set8_block HS5.out.res (.int .i64 k5) (.slice b5.1 b5.2.1 b5.2.2) (.int .i64 bn5) (.slice s5.1 s5.2.1 s5.2.2) (.slice i5.1 i5.2.1 i5.2.2) (.slice f5.1 f5.2.1 f5.2.2) (.slice c5.1 c5.2.1 c5.2.2) (.slice x5.1 x5.2.1 x5.2.2))
    obtain ⟨⟨h0,h1,h2,h3,h4,h5,h6,h7⟩,hz⟩:=boxed_of HS5.out.res
    go_wp2
    refine bodyPost_ret (v := .tuple #[vecW k5 b5 bn5 s5 i5 f5 c5 x5,.int .i64 0]) ?_ rfl (.inl ⟨HALL.out,k5,b5,bn5,s5,i5,f5,c5,x5,rfl,HKE.out.step (bel1 _ _),bel_both HBE.out (bel1 _ _)⟩)
    exact ret_vec2 (fn:=Tryz.f96) (p:=10) (u:=11) rfl _ _ (w.heap.size+1) (by rfl) ((Below.heap_alloc _ _ _ (lt_of_block HRE.out)).trans HRE.out)
   ·have HS7:=Lib.hid ((HS6.out.step hb5).step (bel1 w7 (.cells zcells 38)))
    have z7:w.heap.size < w7.heap.size:=(HS6.out.step hb5).box.lt
    have z7':w.heap.size+1 < w7.heap.size:=(HS6.out.step hb5).sz
    clear hb5 HS3 HS6
    have HSZ:=(HS7.out).sz
    have HFF:=Lib.hid (HFL.out (w7.alloc (.cells zcells 38)) HS7.out.bel)
    obtain ⟨h0,h1,h2,h3,h4,h5,h6,h7⟩:=HS7.out.box
    go_wp2_with fail
    refine HFF.out.mono ?_
    clear h0 h1 h2 h3 h4 h5 h6 h7
    rintro e w5 (⟨hall,k5,b5,bn5,s5,i5,f5,c5,x5,rfl,hk5,hb5⟩ | ⟨hbad,rfl,hb5⟩)
    ·have HS5:=Lib.hid (HS7.out.step hb5)
     have HALL:=Lib.hid hall
     clear hall
     have HK5:=Lib.hid (hk5.sub (H':=fun j=>H j\/j=w.heap.size+1) fun j _ e=>e.imp id fun e=>by have:=HSZ;omega)
     clear hb5 hk5 HSZ
     have z5:w.heap.size < w5.heap.size:=HS5.out.box.lt
     have z5':w.heap.size+1 < w5.heap.size:=HS5.out.sz
     have HKE:=Lib.hid ((HK5.out.set8 (.inr rfl) (.int .i64 k5) (.slice b5.1 b5.2.1 b5.2.2) (.int .i64 bn5) (.slice s5.1 s5.2.1 s5.2.2) (.slice i5.1 i5.2.1 i5.2.2) (.slice f5.1 f5.2.1 f5.2.2) (.slice c5.1 c5.2.1 c5.2.2) (.slice x5.1 x5.2.1 x5.2.2)).sub (H':=H) fun _ _ e => .inl e)
     have HBE:=Lib.hid (below_set8 HS5.out.bel (Nat.le_succ _) (.int .i64 k5) (.slice b5.1 b5.2.1 b5.2.2) (.int .i64 bn5) (.slice s5.1 s5.2.1 s5.2.2) (.slice i5.1 i5.2.1 i5.2.2) (.slice f5.1 f5.2.1 f5.2.2) (.slice c5.1 c5.2.1 c5.2.2) (.slice x5.1 x5.2.1 x5.2.2))
     have HRE:=Lib.hid (set8_block HS5.out.res (.int .i64 k5) (.slice b5.1 b5.2.1 b5.2.2) (.int .i64 bn5) (.slice s5.1 s5.2.1 s5.2.2) (.slice i5.1 i5.2.1 i5.2.2) (.slice f5.1 f5.2.1 f5.2.2) (.slice c5.1 c5.2.1 c5.2.2) (.slice x5.1 x5.2.1 x5.2.2))
     obtain ⟨⟨h0,h1,h2,h3,h4,h5,h6,h7⟩,hz⟩:=boxed_of HS5.out.res
     go_wp2
     refine bodyPost_ret (v := .tuple #[vecW k5 b5 bn5 s5 i5 f5 c5 x5,.int .i64 0]) ?_ rfl (.inl ⟨HALL.out,k5,b5,bn5,s5,i5,f5,c5,x5,rfl,HKE.out,HBE.out⟩)
     exact ret_vec2 (fn:=Tryz.f96) (p:=10) (u:=11) rfl _ _ (w.heap.size+1) (by rfl) HRE.out
    ·have HS5:=Lib.hid (HS7.out.step hb5)
     have HBAD:=Lib.hid hbad
     clear hbad hb5
     have z5:w.heap.size < w5.heap.size:=HS5.out.box.lt
     have z5':w.heap.size+1 < w5.heap.size:=HS5.out.sz
     obtain ⟨⟨h0,h1,h2,h3,h4,h5,h6,h7⟩,hz⟩:=boxed_of HS5.out.res
     go_wp2
     refine bodyPost_ret (v := .tuple #[vecV 0 vnil 0 vnil vnil vnil vnil vnil,.int .i64 24]) ?_ rfl (.inr ⟨HBAD.out,rfl,below_set8 HS5.out.bel (Nat.le_succ _) _ _ _ _ _ _ _ _⟩)
     exact ret_vec2 (fn:=Tryz.f96) (p:=10) (u:=11) rfl _ _ (w.heap.size+1) (by rfl) (set8_block HS5.out.res _ _ _ _ _ _ _ _)
  ·have HPK:=Lib.hid (fun W=>packed_no 4 hk1 (.slice b.1 b.2.1 b.2.2) bn (.slice s.1 s.2.1 s.2.2) (.slice i.1 i.2.1 i.2.2) (.slice f.1 f.2.1 f.2.2) (.slice c.1 c.2.1 c.2.2) (.slice x.1 x.2.1 x.2.2) W)
   have HW4:=Lib.hid (fun W=>wholes_4 (.slice b.1 b.2.1 b.2.2) bn (.slice s.1 s.2.1 s.2.2) (.slice i.1 i.2.1 i.2.2) (.slice f.1 f.2.1 f.2.2) (.slice c.1 c.2.1 c.2.2) (.slice x.1 x.2.1 x.2.2) W)
   clear HWH HFW hk1
   go_enter Tryz.func96,Tryz.ntmps96
   go_wp2_with fail
   refine (HK.out _).mono ?_
   rintro e w1 ⟨rfl,hw⟩
   rw [hw] at HS
   clear hw
   obtain ⟨h0,h1,h2,h3,h4,h5,h6,h7⟩:=HS.out.box
   go_wp2_with fail
   refine (HC.out _ HS.out.bel).mono ?_
   rintro e w2 ⟨rfl,hb2⟩
   have HS2:=Lib.hid (HS.out.step hb2)
   clear hb2 h0 h1 h2 h3 h4 h5 h6 h7 HS
   obtain ⟨h0,h1,h2,h3,h4,h5,h6,h7⟩:=HS2.out.box
   go_wp2_with fail
   refine (HPK.out _).mono ?_
   rintro e w3 ⟨rfl,hb3⟩
   have HS3:=Lib.hid ((HS2.out.step hb3).step (bel1 w3 (.cells #[vnil,.int .i64 0] 31)))
   have z3:w.heap.size < w3.heap.size:=(HS2.out.step hb3).box.lt
   have z3':w.heap.size+1 < w3.heap.size:=(HS2.out.step hb3).sz
   clear hb3 h0 h1 h2 h3 h4 h5 h6 h7 HS2
   obtain ⟨h0,h1,h2,h3,h4,h5,h6,h7⟩:=HS3.out.box
   go_wp2_with fail
   refine (HW4.out _).mono ?_
   clear h0 h1 h2 h3 h4 h5 h6 h7
   rintro e w6 ⟨rfl,hb6⟩
   have HS7:=Lib.hid (HS3.out.step hb6)
   clear hb6 HS3
   have HSZ:=(HS7.out).sz
   have HFF:=Lib.hid (HFL.out (w6) HS7.out.bel)
   obtain ⟨h0,h1,h2,h3,h4,h5,h6,h7⟩:=HS7.out.box
   go_wp2_with fail
   refine HFF.out.mono ?_
   clear h0 h1 h2 h3 h4 h5 h6 h7
   rintro e w5 (⟨hall,k5,b5,bn5,s5,i5,f5,c5,x5,rfl,hk5,hb5⟩ | ⟨hbad,rfl,hb5⟩)
   ·have HS5:=Lib.hid (HS7.out.step hb5)
    have HALL:=Lib.hid hall
    clear hall
    have HK5:=Lib.hid (hk5.sub (H':=fun j=>H j\/j=w.heap.size+1) fun j _ e=>e.imp id fun e=>by have:=HSZ;omega)
    clear hb5 hk5 HSZ
    have z5:w.heap.size < w5.heap.size:=HS5.out.box.lt
    have z5':w.heap.size+1 < w5.heap.size:=HS5.out.sz
    have HKE:=Lib.hid ((HK5.out.set8 (.inr rfl) (.int .i64 k5) (.slice b5.1 b5.2.1 b5.2.2) (.int .i64 bn5) (.slice s5.1 s5.2.1 s5.2.2) (.slice i5.1 i5.2.1 i5.2.2) (.slice f5.1 f5.2.1 f5.2.2) (.slice c5.1 c5.2.1 c5.2.2) (.slice x5.1 x5.2.1 x5.2.2)).sub (H':=H) fun _ _ e => .inl e)
    have HBE:=Lib.hid (below_set8 HS5.out.bel (Nat.le_succ _) (.int .i64 k5) (.slice b5.1 b5.2.1 b5.2.2) (.int .i64 bn5) (.slice s5.1 s5.2.1 s5.2.2) (.slice i5.1 i5.2.1 i5.2.2) (.slice f5.1 f5.2.1 f5.2.2) (.slice c5.1 c5.2.1 c5.2.2) (.slice x5.1 x5.2.1 x5.2.2))
    have HRE:=Lib.hid (set8_block HS5.out.res (.int .i64 k5) (.slice b5.1 b5.2.1 b5.2.2) (.int .i64 bn5) (.slice s5.1 s5.2.1 s5.2.2) (.slice i5.1 i5.2.1 i5.2.2) (.slice f5.1 f5.2.1 f5.2.2) (.slice c5.1 c5.2.1 c5.2.2) (.slice x5.1 x5.2.1 x5.2.2))
    obtain ⟨⟨h0,h1,h2,h3,h4,h5,h6,h7⟩,hz⟩:=boxed_of HS5.out.res
    go_wp2
    refine bodyPost_ret (v := .tuple #[vecW k5 b5 bn5 s5 i5 f5 c5 x5,.int .i64 0]) ?_ rfl (.inl ⟨HALL.out,k5,b5,bn5,s5,i5,f5,c5,x5,rfl,HKE.out,HBE.out⟩)
    exact ret_vec2 (fn:=Tryz.f96) (p:=10) (u:=11) rfl _ _ (w.heap.size+1) (by rfl) HRE.out
   ·have HS5:=Lib.hid (HS7.out.step hb5)
    have HBAD:=Lib.hid hbad
    clear hbad hb5
    have z5:w.heap.size < w5.heap.size:=HS5.out.box.lt
    have z5':w.heap.size+1 < w5.heap.size:=HS5.out.sz
    obtain ⟨⟨h0,h1,h2,h3,h4,h5,h6,h7⟩,hz⟩:=boxed_of HS5.out.res
    go_wp2
    refine bodyPost_ret (v := .tuple #[vecV 0 vnil 0 vnil vnil vnil vnil vnil,.int .i64 24]) ?_ rfl (.inr ⟨HBAD.out,rfl,below_set8 HS5.out.bel (Nat.le_succ _) _ _ _ _ _ _ _ _⟩)
    exact ret_vec2 (fn:=Tryz.f96) (p:=10) (u:=11) rfl _ _ (w.heap.size+1) (by rfl) (set8_block HS5.out.res _ _ _ _ _ _ _ _)
end Go.Proofs.YtakgmnafbjdccaaGreatDoor
