/- The walk of rebusref25.FoldNum, along the last axis, of an array that is no list of characters. Printed by gen_rfn.py. The walk of rebusref27.Member. Printed .. Conditions: as each theorem says. -/
import Derived.Test.YtdelgpelkfndeaaGreatDoorMgA
import Derived.Test.YtdelgpelkfndeaaGreatDoorMg26
import Derived.Test.YtdelgpelkfndeaaGreatDoorMg11
import Derived.Test.YtdelgpelkfndeaaGreatDoorMg22
import Derived.Test.YtdelgpelkfndeaaGreatDoorMg17
import Derived.Test.YtdelgpelkfndeaaGreatDoorMg24
set_option maxRecDepth 100000
set_option maxHeartbeats 4000000
namespace Go.Proofs.YtdelgpelkfndeaaGreatDoor
open Go Go.RowKit Go.Proofs Fl
theorem Qn7 {H:Nat->Prop}{w:World}{a:PA}{h x:Sl}{fo:Int} (g:PV H w (rawP a) h x fo) (hH:∀ b,H b->b < w.heap.size) (d:Nat) (hd:0 < d) (hg:GoodA (d+1) a) (hs:SmA 1000000 a) (hl:a.len<=1000000) (f:Int) (hf1:a.fill≠1) (W0:World) (hb:Below w.heap.size w W0) :
  Calls Tryz.prog 41 #[.int .i64 f,plV h x fo,.bool false] W0 (RtU H W0 (QbG f a false)):=by
 have hrk:=QeM g
 have hok:OkSh a.shape a.len:=hg.sh.2
 have hfo:fo=(a.fill:Int):=(Qap g).2.1
 have HKN:=hD (fun W=>Qby f W)
 have HS0:=hD (P1.new W0 h x fo)
 have HFD:Hid (Qaz f=true->∀ W,P1 W0 W h x fo->Calls Tryz.prog 80 #[.int .i64 (f+100),plV h x fo,.bool false] W (RtU (fun b=>H b\/b=W0.heap.size+1) W (Qdm f a false))):=fun hk W s=>Qjm (H:=fun b=>H b\/b=W0.heap.size+1) (w:=W) (PV.step (PV.sub (fun b hb9 e=>by
   rcases e with e | e
   ·exact e
   ·have:=hb.size;omega) g) (Qaa hb s.bel)) (fun b e=>by
   have:=s.sz
   have:=hb.size
   rcases e with e | e
   ·have:=hH b e;omega
   ·omega) d hd hg hs hl f hk W (Below.refl _ _)
 have HSA:=hD (fun hk W=>Qf0 f hk W)
 have HAX:Hid (0 < h.2.1->∀ W,Calls Tryz.prog 79 #[plV h x fo,.bool false] W fun e w'=>e= .returned (.int .i64 ((h.2.1 - 1:Nat):Int))/\Below W.heap.size W w'):=fun h0 W=>QfK h x fo h0 (by rw [hrk];exact hok.1) W
 obtain ⟨n,hn⟩:∃ n,n=a.shape.getD (a.shape.length - 1) 0:=⟨_,rfl⟩
 have HDC:Hid (0 < h.2.1->∃ b o,h.1=some ⟨b,o,none⟩/\W0.cell? ⟨b,o+(h.2.1 - 1),none⟩=some (.int .i64 (n:Int))):=fun h0=>by
  have h1:=g
  rw [Qcl (rawP a)] at h1
  have h2:=h1.open_.1
  rw [QbO,List.map_map] at h2
  obtain ⟨A9,n9,c9,e9,hn9,hc9⟩:=Qbc (Keeps.lat h2 (Lat.below hb)).now
  have hks:a.shape.length - 1 < a.shape.length:=by omega
  obtain ⟨b,o,hA,hce⟩:=hc9 (a.shape.length - 1) hks
  injection e9 with e1 e2 e3
  refine ⟨b,o,by rw [e1,hA],?_⟩
  rw [show h.2.1 - 1=a.shape.length - 1 by omega,hce,hn]
  simp [List.getD,hks]
 have HFE:Hid (QbG f a false=if Qaz f=false then (1,default) else if 0 < h.2.1/\a.fill=0/\n=0/\QbK f=none then (24,default) else Qdm f a false):=by
  unfold Hid QbG
  have hax:axN a false=a.shape.length - 1:=rfl
  have hne:a.shape≠[]↔0 < h.2.1:=by
   rw [hrk]
   cases a.shape with
   | nil=>simp
   | cons y l=>simp
  by_cases hk:Qaz f=false
  ·rw [if_pos hk,if_pos hk]
  rw [if_neg hk,if_neg hk,if_neg (show ¬ (a.shape≠[]/\a.fill=1) from fun h=>hf1 h.2),hax,<- hn]
  by_cases hc:0 < h.2.1/\a.fill=0/\n=0/\QbK f=none
  ·rw [if_pos hc,if_pos ⟨hne.2 hc.1,hc.2⟩]
  ·rw [if_neg hc,if_neg (fun h=>hc ⟨hne.1 h.1,h.2⟩)]
 rw [HFE.out]
 obtain ⟨fl,hfl⟩:∃ fl,fl=a.fill:=⟨_,rfl⟩
 rw [<- hfl] at hfo hf1 ⊢
 have hfo1:(fo==1)=false:=by rw [beq_eq_false_iff_ne];omega
 generalize Qdm f a false=rF at *
 have h8:h.2.1<=8:=by rw [hrk];exact hok.1
 obtain ⟨kb,hkb⟩:∃ kb,kb=Qaz f:=⟨_,rfl⟩
 have HKB:Hid (kb=true->1<=f/\f<=24):=fun h=>by
  rcases QcB (hkb▸h) with h | h | h <;> omega
 rw [<- hkb] at HKN HFD HSA ⊢
 clear g hH hg hs hl hb HFE hn hrk hok hfl hkb
 unfold QjH at HSA
 unfold RtU at HFD
 obtain ⟨wz,hwz⟩:∃ wz,wz=(W0.alloc (plO h x fo)).alloc (plO nilS nilS 0):=⟨_,rfl⟩
 rw [<- hwz] at HS0
 have HWZ:=hD hwz
 have HFO:=hD hfo
 clear hwz hfo
 cases kb with
 | false =>
  rw [if_pos rfl]
  clear HFD HSA HAX HDC
  go_enter Tryz.func41,Tryz.ntmps41
  go_upto_region 1 with fail
  rw [<- HWZ.out]
  go_wp2_with fail
  refine (HKN.out _).mono ?_
  rintro e w1 ⟨rfl,rfl⟩
  obtain ⟨⟨y0,y1,y2⟩,yz⟩:=block3 HS0.out.res
  go_wp2
  refine bodyPost_ret (v := .tuple #[plV nilS nilS 0,.int .i64 1]) ?_ rfl (Qb9 rfl (by decide) (Qaf HS0.out.bel (Nat.le_add_right _ 1) _ _ _))
  exact Qaw (fn:=Tryz.f41) (p:=6) (u:=7) rfl _ _ (W0.heap.size+1) (by rfl) (Qae HS0.out.res _ _ _)
 | true =>
  rw [if_neg (by decide)]
  obtain ⟨res,hres⟩:∃ res:Int×PA,res=if 0 < h.2.1/\fl=0/\n=0/\QbK f=none then (24,default) else rF:=⟨_,rfl⟩
  have HRES:Hid (res=if 0 < h.2.1/\fl=0/\n=0/\QbK f=none then (24,default) else rF):=hres
  rw [<- hres]
  obtain ⟨hf8,hf9⟩:=HKB.out rfl
  clear hres HKB
  go_enter Tryz.func41,Tryz.ntmps41
  go_upto_region 1 with fail
  rw [<- HWZ.out]
  go_wp2_with fail
  refine (HKN.out _).mono ?_
  rintro e w1 ⟨rfl,rfl⟩
  clear HWZ
  obtain ⟨p0,p1,p2⟩:=Qax HS0.out.one
  go_upto_region 3 with fail
  go_cut [22] from 14 (fun v wx=>v= .bool false/\wx=wz)
  case first =>
   by_cases h0:(h.2.1:Int) > 0
   ·go_wp2
    go_meet
    exact ⟨rfl,rfl⟩
   ·go_wp2
    go_meet
    exact ⟨rfl,rfl⟩
  obtain ⟨rfl,hwc⟩:=hcut
  subst hwc
  go_wp2_with fail
  refine (HSA.out (by trivial) _).mono ?_
  rintro e w2 ⟨rfl,hb2⟩
  have HS2:=hD (HS0.out.step hb2)
  clear hb2 p0 p1 p2 HS0 HSA
  obtain ⟨sB,hsB⟩:∃ sB,sB=(QbK f).isSome:=⟨_,rfl⟩
  rw [<- hsB]
  have hsN:QbK f=none↔sB=false:=by rw [hsB];cases QbK f <;> simp
  have HRES2:Hid (res=if 0 < h.2.1/\fl=0/\n=0/\sB=false then (24,default) else rF):=by unfold Hid;rw [HRES.out];simp only [hsN]
  generalize (QbK f).getD 0=sv0
  clear hsB hsN HRES
  obtain ⟨cB,hcB⟩:∃ cB:Bool,cB=decide (0 < h.2.1/\fl=0/\n=0/\sB=false):=⟨_,rfl⟩
  have hcI:(0 < h.2.1/\fl=0/\n=0/\sB=false)↔cB=true:=by rw [hcB];simp
  have HR1:Hid (cB=true->res=(24,default)):=fun e=>by rw [HRES2.out,if_pos (hcI.2 e)]
  have HR2:Hid (cB=false->res=rF):=fun e=>by rw [HRES2.out,if_neg (fun h9=>by rw [hcI.1 h9] at e;cases e)]
  clear hcI HRES2
  go_upto_region 6 with fail
  go_cut [56] from 34 (fun v wx=>v= .bool cB/\P1 W0 wx h x fo)
  case first =>
   obtain ⟨p0,p1,p2⟩:=Qax HS2.out.one
   have hL1:=LatW.cell (w:=w2) (g:=W0.heap.size) (by have:=HS2.out.sz;omega)
   by_cases h0:0 < h.2.1
   ·have h0':(h.2.1:Int) > 0:=by omega
    obtain ⟨b,o,hA,hce⟩:=HDC.out h0
    have hcd:=QaB HS2.out.bel hce
    have hL2:=LatW.cell (w:=w2) (g:=b) (Qav hcd)
    have HAX:=hD (HAX.out h0)
    obtain ⟨hA0,hm,hc⟩:=h
    dsimp only at hA hcd p0 p1 h0 h0' h8 hcB HAX ⊢
    subst hA
    obtain ⟨m,rfl⟩:∃ m,hm=m+1:=⟨hm - 1,by omega⟩
    rw [show m+1 - 1=m by omega] at hcd
    rw [show ((m+1 - 1:Nat):Int)=(m:Int) by omega] at HAX
    have hml:(m:Int) < ((m+1:Nat):Int):=by omega
    have hm0:(m:Int)>=0:=by omega
    by_cases hf0:fl=0
    ·obtain rfl:fo=0:=by have:=HFO.out;omega
     by_cases hn0:n=0
     ·subst hn0
      cases sB with
      | false =>
       refine QaA (by kernel_rfl) (by kernel_rfl) ?_
       repeat (go_big_quiet_step (first | (go_at_call 79;refine QaM (HAX.out _))))
       refine wpQuiet_nil ?_
       intro _ hw'
       obtain ⟨nq,hw''⟩:=hw'
       subst hw''
       have HS3:=hD (HS2.out.step nq.h)
       clear hL1 hL2
       go_wp2
       go_meet
       exact ⟨by rw [hcB];simp [hf0],HS3.out⟩
      | true =>
       refine QaA (by kernel_rfl) (by kernel_rfl) ?_
       repeat (go_big_quiet_step (first | (go_at_call 79;refine QaM (HAX.out _))))
       refine wpQuiet_nil ?_
       intro _ hw'
       obtain ⟨nq,hw''⟩:=hw'
       subst hw''
       have HS3:=hD (HS2.out.step nq.h)
       clear hL1 hL2
       go_wp2
       go_meet
       exact ⟨by rw [hcB];simp,HS3.out⟩
     ·have hnz:((n:Int)==0)=false:=by rw [beq_eq_false_iff_ne];omega
      refine QaA (by kernel_rfl) (by kernel_rfl) ?_
      repeat (go_big_quiet_step (first | (go_at_call 79;refine QaM (HAX.out _))))
      refine wpQuiet_nil ?_
      intro _ hw'
      obtain ⟨nq,hw''⟩:=hw'
      subst hw''
      have HS3:=hD (HS2.out.step nq.h)
      clear hL1 hL2
      go_wp2
      go_meet
      exact ⟨by rw [hcB];simp [hn0],HS3.out⟩
    ·have hfz:(fo==0)=false:=by rw [beq_eq_false_iff_ne];have:=HFO.out;omega
     refine QaA (by kernel_rfl) (by kernel_rfl) ?_
     repeat (go_big_quiet_step (first | (go_at_call 79;refine QaM (HAX.out _))))
     refine wpQuiet_nil ?_
     intro _ hw'
     obtain ⟨nq,hw''⟩:=hw'
     subst hw''
     have HS3:=hD (HS2.out.step nq.h)
     clear hL1 hL2
     go_wp2
     go_meet
     exact ⟨by rw [hcB];simp [hf0],HS3.out⟩
   ·have h0':¬ (h.2.1:Int) > 0:=by omega
    have hL2:True:=trivial
    refine QaA (by kernel_rfl) (by kernel_rfl) ?_
    repeat (go_big_quiet_step (fail))
    refine wpQuiet_nil ?_
    intro _ hw'
    obtain ⟨nq,hw''⟩:=hw'
    subst hw''
    have HS3:=hD (HS2.out.step nq.h)
    clear hL1 hL2
    go_wp2
    go_meet
    exact ⟨by rw [hcB];simp;omega,HS3.out⟩
  obtain ⟨rfl,hst⟩:=hcut
  have HS3:=hD hst
  clear hst HS2 HAX HDC hcB
  cases cB with
  | true =>
   obtain ⟨⟨y0,y1,y2⟩,yz⟩:=block3 HS3.out.res
   go_wp2
   refine bodyPost_ret (v := .tuple #[plV nilS nilS 0,.int .i64 24]) ?_ rfl (Qb9 (by rw [HR1.out (by trivial)]) (by decide) (Qaf HS3.out.bel (Nat.le_add_right _ 1) _ _ _))
   exact Qaw (fn:=Tryz.f41) (p:=6) (u:=7) rfl _ _ (W0.heap.size+1) (by rfl) (Qae HS3.out.res _ _ _)
  | false =>
   obtain ⟨p0,p1,p2⟩:=Qax HS3.out.one
   have HRF:=hD (HR2.out (by trivial))
   clear HR1 HR2
   go_wp2_with fail
   refine (HFD.out (by trivial) _ HS3.out).mono ?_
   rintro e w5 ⟨h5,x5,f5,rfl,hp5,hb5⟩
   have HS5:=hD (HS3.out.step hb5)
   have HP5:=hD hp5
   clear hb5 hp5 p0 p1 p2 HFD
   obtain ⟨⟨y0,y1,y2⟩,yz⟩:=block3 HS5.out.res
   go_wp2
   refine bodyPost_ret (v := .tuple #[plV h5 x5 f5,.int .i64 rF.1]) ?_ rfl ⟨h5,x5,f5,by rw [HRF.out],fun h0=>by rw [HRF.out] at h0 ⊢;exact PV.sub (fun b _ e => .inl e) (PV.lat (Lat.set3 (H:=fun b=>H b\/b=W0.heap.size+1) (G:=W0.heap.size+1) (.inr rfl) _ _ _) (HP5.out h0)),Qaf HS5.out.bel (Nat.le_add_right _ 1) _ _ _⟩
   exact Qaw (fn:=Tryz.f41) (p:=6) (u:=7) rfl _ _ (W0.heap.size+1) (by rfl) (Qae HS5.out.res _ _ _)
theorem Qlw {a b:PA} (d e:Nat) (hg:GoodA d a) (hs:SmA 1000000 a) (hg2:GoodA e b) (hs2:SmA 1000000 b) (i k:Nat) (hi:i < a.len) (hk:k < b.len):ItmB (elA a i) (elA b k):=by
 have hl:=Qj2 d a hg hs
 have ht:=Qj0 d a hg
 have hm:=Qj2 e b hg2 hs2
 have hu:=Qj0 e b hg2
 have h1:=Qb8 hi
 have h2:=Qb8 hk
 have l1:i < (rawP a).its.length:=by rw [Qbt];exact hi
 have l2:k < (rawP b).its.length:=by rw [Qbt];exact hk
 rw [List.getD_eq_getElem?_getD,List.getElem?_eq_getElem l1,Option.getD_some] at h1
 rw [List.getD_eq_getElem?_getD,List.getElem?_eq_getElem l2,Option.getD_some] at h2
 rw [Qcl (rawP a),LnP] at hl
 rw [Qcl (rawP a),TfP] at ht
 rw [Qcl (rawP b),LnP] at hm
 rw [Qcl (rawP b),TfP] at hu
 have a1:=Qea l1 hl.2.2
 have a2:=Qd8 l1 ht
 have b1:=Qea l2 hm.2.2
 have b2:=Qd8 l2 hu
 rw [h1] at a1 a2
 rw [h2] at b1 b2
 generalize elA a i=x at a1 a2 ⊢
 generalize elA b k=y at b1 b2 ⊢
 cases x with
 | mk kind num char box =>
  cases y with
  | mk kind' num' char' box' =>
   rw [LnI] at a1 b1
   rw [TfI] at a2 b2
   exact QhT kind num char box kind' num' char' box' a2.1 b2.1 a1.1 fun j hj hj'=>Qgf _ box[j] box'[j] (Nat.le_refl _) (Qeb hj a1.2) (Qd9 hj a2.2) (Qeb hj' b1.2) (Qd9 hj' b2.2)
theorem Qsz {a b:PA}{c z:Nat} (h:FndI (rawP b).its (elA a c) z):memB a b c=decide (z < b.len):=by
 obtain ⟨h0,h1,h2⟩:=h
 have hl:=Qbt b
 have hat:∀ j,j < b.len->(rawP b).its[j]?=some (elA b j):=fun j hj=>by
  have e:=Qb8 hj
  have l1:j < (rawP b).its.length:=by rw [hl];exact hj
  rw [List.getD_eq_getElem?_getD,List.getElem?_eq_getElem l1,Option.getD_some] at e
  rw [List.getElem?_eq_getElem l1,e]
 by_cases hz:z < b.len
 ·rw [decide_eq_true hz]
  refine memB_iff.2 ⟨z,hz,?_⟩
  have e:=h2 (by omega)
  rw [hat z hz] at e
  exact Option.some.inj e
 ·rw [decide_eq_false hz]
  cases hm:memB a b c with
  | false=>rfl
  | true =>
   obtain ⟨j,hj,e⟩:=memB_iff.1 hm
   exact absurd ((hat j hj).trans (congrArg some e)) (h1 j (by omega))
theorem IOwn.flat {H:Nat->Prop}{w w':World}{B:Nat}{v:Value}{l:List RI} (h:IOwn H w B v l) (hf:∀ i (hi:i < l.length),∃ k n c,l[i]= .mk k n c []) (hg:∀ b,v.ownBlock=some b->w'.heap[b]?=w.heap[b]?):IOwn H w' B v l:=by
 obtain ⟨qq,hown,ha⟩:=h
 refine ⟨qq,⟨hown.1,?_⟩,fun i hi=>?_⟩
 ·rcases hown.2 with h2 | ⟨g,cap,cur,hv,hbg,hgg,r⟩
  ·exact .inl h2
  ·exact .inr ⟨g,cap,cur,hv,hbg,by rw [hg g (by rw [hv];rfl)];exact hgg,r⟩
 ·obtain ⟨k,n,c,e⟩:=hf i hi
  have h1:=ha i hi
  rw [e] at h1 ⊢
  rw [IV] at h1 ⊢
  exact ⟨h1.1,h1.2.1,h1.2.2.1,h1.2.2.2.1,.inl ⟨rfl,trivial⟩⟩
theorem Qun {w wq W:World}{h1 h2 x2 yi:Sl}{xA:Option Addr}{xn xc:Nat}{f1 f2 ki ci:Int}{bi oi ni c:Nat} (hat:∀ W,Below wq.heap.size wq W->At4 W bi (oi+c*4) ki ni ci yi) (g:RtS w wq h1 (xA,xn,xc) f1 h2 x2 f2 W):((W.cell? ⟨w.heap.size,0,none⟩=some (.slice h1.1 h1.2.1 h1.2.2)/\W.cell? ⟨w.heap.size,1,none⟩=some (.slice xA xn xc)/\W.cell? ⟨w.heap.size,2,none⟩=some (.int .i64 f1))/\(W.cell? ⟨w.heap.size+1,0,none⟩=some (.slice h2.1 h2.2.1 h2.2.2)/\W.cell? ⟨w.heap.size+1,1,none⟩=some (.slice x2.1 x2.2.1 x2.2.2)/\W.cell? ⟨w.heap.size+1,2,none⟩=some (.int .i64 f2)))/\(W.cell? ⟨bi,oi+c*4,none⟩=some (.int .i64 ki)/\W.cell? ⟨bi,oi+c*4+1,none⟩=some (.float .f64 ni)/\W.cell? ⟨bi,oi+c*4+2,none⟩=some (.int .i32 ci)/\W.cell? ⟨bi,oi+c*4+3,none⟩=some (.slice yi.1 yi.2.1 yi.2.2))/\RtS w wq h1 (xA,xn,xc) f1 h2 x2 f2 W :=
 ⟨⟨Qax g.p3.p2.one,Qax g.p3.p2.two⟩,by
  obtain ⟨a0,a1,a2,a3⟩:=hat W g.bel
  exact ⟨a0,a1,a2,a3⟩,g⟩
theorem Qlx {H:Nat->Prop}{a b:PA}{h1 x1 h2 x2:Sl}{f1 f2:Int} (w:World) (hH:∀ b,H b->b < w.heap.size) (ga:PV H w (rawP a) h1 x1 f1) (gb:PV H w (rawP b) h2 x2 f2) (d e:Nat) (hg:GoodA d a) (hs:SmA 1000000 a) (hg2:GoodA e b) (hs2:SmA 1000000 b) :
  Calls Tryz.prog 37 #[plV h1 x1 f1,plV h2 x2 f2] w (PzR H w (rawP (memA a b))):=by
 obtain ⟨n,hn⟩:∃ n,n=a.len:=⟨_,rfl⟩
 have hnb:n<=1000000:=by rw [hn];exact hs.len
 obtain ⟨R,hR⟩:∃ R:Nat->Nat,R=fun c=>Qai (memB a b c):=⟨_,rfl⟩
 have HRES:Hid (rawP (memA a b)= .mk (a.shape.map Int.ofNat) ((List.range n).map fun j=>RI.mk 0 (R j) 0 []) 0):=by
  unfold Hid memA truA
  rw [rawP,List.map_map,hR,hn]
  rfl
 have HRB:Hid (∀ c,R c=Qai (memB a b c)):=fun c=>by rw [hR]
 have hitA:(rawP a).its.length=a.len:=Qbt a
 have hitB:(rawP b).its.length=b.len:=Qbt b
 have HLB2:Hid (x2.2.1=b.len):=(Qap gb).2.2
 have hxa:x1.2.1=n:=by rw [hn];exact (Qap ga).2.2
 have hrdA:=(Qap ga).1
 have hga:=ga
 have hgb:=gb
 rw [Qcl (rawP a)] at hga
 rw [Qcl (rawP b)] at hgb
 have HIT:Hid (∀ c,c < n->∃ bi oi ki ni ci yi,x1.1=some ⟨bi,oi,none⟩/\IV H w (elA a c) ki ni ci yi/\∀ W,Below w.heap.size w W->At4 W bi (oi+c*4) ki ni ci yi):=fun c hc=>by
  have hl:c < (rawP a).its.length:=by omega
  obtain ⟨-,-,hx,hit⟩:=hga.open_
  obtain ⟨bi,oi,ki,ni,ci,yi,e1,-,e2,e3⟩:=hit c hl
  have h9:=Qb8 (a:=a) (i:=c) (by omega)
  rw [List.getD_eq_getElem?_getD,List.getElem?_eq_getElem hl,Option.getD_some] at h9
  rw [h9] at e2
  exact ⟨bi,oi,ki,ni,ci,yi,e1,e2,fun W hb=>e3 W (Lat.below hb)⟩
 have HFN:Hid (∀ c,c < n->∀ ki ni ci yi,IV H w (elA a c) ki ni ci yi->∀ W,Below w.heap.size w W->Calls Tryz.prog 70 #[sv x2,itV ki ni ci yi] W (fun e w'=>∃ z:Nat,e= .returned (.int .i64 (z:Int))/\memB a b c=decide (z < b.len)/\Below W.heap.size W w')):=fun c hc ki ni ci yi hiv W hb =>
  (Qnd hgb.its (elA a c) ki ni ci yi hiv (by rw [hitB];have:=hs2.len;omega) (fun i hi=>by
   have h9:=Qb8 (a:=b) (i:=i) (by omega)
   rw [List.getD_eq_getElem?_getD,List.getElem?_eq_getElem hi,Option.getD_some] at h9
   rw [h9]
   exact Qlw e d hg2 hs2 hg hs i c (by omega) (by omega)) W hb).mono fun e w' h=>by
    obtain ⟨z,e1,e2,e3⟩:=h
    exact ⟨z,e1,Qsz e2,e3⟩
 have HS0:=hD (P3.new w h1 x1 f1 h2 x2 f2)
 have HH:=hD hH
 have HRDA:=hD hrdA
 have HXA:=hD hxa
 obtain ⟨nb,hnbl⟩:∃ nb,nb=b.len:=⟨_,rfl⟩
 rw [<- hnbl] at HLB2 HFN
 have hnb2:nb<=1000000:=by rw [hnbl];exact hs2.len
 obtain ⟨shA,hshA⟩:∃ sh,sh=a.shape:=⟨_,rfl⟩
 rw [<- hshA] at HRES HRDA
 rw [HRES.out]
 clear hR hn ga gb hga hgb hg hs hg2 hs2 hitA hitB hH hrdA hxa HRES hnbl hshA
 go_enter Tryz.func37,Tryz.ntmps37
 obtain ⟨wa,hwa⟩:∃ wa,wa=((w.alloc (plO h1 x1 f1)).alloc (plO h2 x2 f2)).alloc (plO nilS nilS 0):=⟨_,rfl⟩
 rw [<- hwa] at HS0
 have HWA:=hD hwa
 clear hwa
 obtain ⟨U,hU⟩:∃ U,U=wa.alloc (plO h1 nilS 0):=⟨_,rfl⟩
 have HU0:=hD hU
 obtain ⟨G,hG⟩:∃ G,G=w.heap.size+1+1+1:=⟨_,rfl⟩
 have hGa:wa.heap.size=G:=by rw [HWA.out,hG];simp
 have hbU:Below wa.heap.size wa U:=by rw [hU];exact bel1 _ _
 have hgb:=HS0.out.sz
 have hsU:U.heap.size=wa.heap.size+1:=by rw [hU];simp
 have HI0:Hid (RtI (fun b=>H b\/b=w.heap.size+2\/b=G) w U G h1 x1 f1 h2 x2 f2 h1 0 ((List.range 0).map fun j=>RI.mk 0 (R j) 0 []) (.slice none 0 0) U) :=
  ⟨IOwn.nil _ _ _,by rw [hU,<- hGa];exact heap_alloc_new wa _,HS0.out.step hbU,Lat.below (Below.refl _ _),by omega,by omega⟩
 have HKU:Hid (∀ b,(fun b=>H b\/b=w.heap.size+2\/b=G) b->b < U.heap.size):=fun b e=>by
  rcases e with e | e | e
  ·have:=HH.out b e;omega
  ·omega
  ·omega
 have HRU:Hid (RdH (fun b=>H b\/b=w.heap.size+2\/b=G) U (sv h1) (Qbv shA)):=Keeps.lat (Keeps.sub HRDA.out fun b hb e=>by
  rcases e with e | e | e
  ·exact e
  ·omega
  ·omega) (Lat.below (Qaa HS0.out.p2.bel hbU))
 have hgU:w.heap.size+3<=U.heap.size:=by omega
 have HBU:Hid (Below w.heap.size w U):=Qaa HS0.out.p2.bel hbU
 obtain ⟨p0,p1,p2⟩:=Qax HS0.out.p2.one
 rw [HWA.out] at p0 p1 p2
 clear hU hbU hsU HRDA hgb hGa
 go_wp2_with fail
 rw [<- HWA.out,<- HU0.out,<- hG]
 clear hG p0 p1 p2 HS0
 go_loopw [6] (fun iv wr=>∃ (c:Nat) (v:Value),c<=n/\iv= .int .i64 (c:Int)/\RtI (fun b=>H b\/b=w.heap.size+2\/b=G) w U G h1 x1 f1 h2 x2 f2 h1 0 ((List.range c).map fun j=>RI.mk 0 (R j) 0 []) v wr) (fun iv _=>n - (intOf iv).toNat)
 case atStart=>exact ⟨0,_,Nat.zero_le _,rfl,HI0.out⟩
 case round =>
  obtain ⟨c,v,hc,rfl,hti⟩:=hrel
  have HTI:=hD hti
  clear hti HI0 HU0 HWA
  obtain ⟨vA,vn,vc,hvn⟩:∃ A n c,v= .slice A n c:=by obtain ⟨a,c,e⟩:=HTI.out.own.len;exact ⟨a,_,c,e⟩
  subst hvn
  obtain ⟨p0,p1,p2⟩:=Qax HTI.out.p3.p2.one
  obtain ⟨xA,xn,xc⟩:=x1
  dsimp only at HXA p1
  obtain rfl:xn=n:=HXA.out
  by_cases hlt:c < xn
  ·have hlt2:(c:Int) < (xn:Int):=by omega
   have hc0:(0:Int)<=(c:Int):=by omega
   obtain ⟨bi,oi,ki,ni,ci,yi,hxA,hiv,hat⟩:=HIT.out c hlt
   have hxA':xA=some ⟨bi,oi,none⟩:=hxA
   subst hxA'
   obtain ⟨wq,hwq⟩:∃ wq,wq=wr.alloc (itO 0 0 0 nilS):=⟨_,rfl⟩
   have HWQ:=hD hwq
   have hbq:Below wr.heap.size wr wq:=by rw [hwq];exact bel1 _ _
   have HTI1:=hD (HTI.out.step hbq)
   have hwb:Below w.heap.size w wq:=Qaa HTI.out.p3.p2.bel hbq
   have HX0:Hid (wq.heap[wr.heap.size]?=some (itO 0 0 0 nilS)):=by unfold Hid;rw [hwq];exact heap_alloc_new wr _
   have HSTQ:Hid (RtS w wq h1 (some ⟨bi,oi,none⟩,xn,xc) f1 h2 x2 f2 wq):=⟨HTI1.out.p3,Below.refl _ _,by have:=HTI1.out.sz;omega⟩
   have HAT:Hid (∀ W,Below wq.heap.size wq W->At4 W bi (oi+c*4) ki ni ci yi):=fun W hb=>hat W (Qaa hwb hb)
   have HFC:=hD (fun W (s:RtS w wq h1 (some ⟨bi,oi,none⟩,xn,xc) f1 h2 x2 f2 W)=>HFN.out c hlt ki ni ci yi hiv W s.p3.p2.bel)
   have HTK:Hid (((List.range (c+1)).map fun j=>RI.mk 0 (R j) 0 [])=((List.range c).map fun j=>RI.mk 0 (R j) 0 [])++[RI.mk 0 (Qai (memB a b c)) 0 []]):=by unfold Hid;rw [List.range_succ,List.map_append,<- HRB.out c];rfl
   have HLB:Hid (((List.range c).map fun j=>RI.mk 0 (R j) 0 []).length<=1048576):=by unfold Hid;simp;omega
   have HLF:Hid (∀ i (hi:i < ((List.range c).map fun j=>RI.mk 0 (R j) 0 []).length),∃ k n c',((List.range c).map fun j=>RI.mk 0 (R j) 0 [])[i]= .mk k n c' []):=fun i hi=>⟨0,R i,0,by simp⟩
   generalize ((List.range c).map fun j=>RI.mk 0 (R j) 0 [])=lc at HTI1 HTK HLB HLF
   obtain ⟨bb,hbb⟩:∃ bb,bb=memB a b c:=⟨_,rfl⟩
   rw [<- hbb] at HFC HTK
   obtain ⟨X,hX⟩:∃ X,X=wr.heap.size:=⟨_,rfl⟩
   rw [<- hX] at HX0
   have HXE:=hD hX
   have HXU:Hid (U.heap.size<=X):=by unfold Hid;rw [hX];exact HTI.out.sz
   have hXV:∀ b,(Value.slice vA vn vc).ownBlock=some b->b≠X:=fun b e=>by have:=(HTI.out.own.own_lt e).2;omega
   clear hxA hiv hat hwb hbq hwq hbb hX HTI
   have hst0:=fun md=>QaK wr 0 0 0 0 (.slice none 0 0) 63 md
   go_upto_region 6 with fail
   rw [<- HWQ.out,<- HXE.out]
   go_cut [30] from 19 to 29 (fun v wx=>v= .bool bb/\RtS w wq h1 (some ⟨bi,oi,none⟩,xn,xc) f1 h2 x2 f2 wx)
   case first =>
    have hs0:=HSTQ.out.dr
    have hs00:=HSTQ.out
    go_region_held3 (fun W=>((W.cell? ⟨w.heap.size,0,none⟩=some (.slice h1.1 h1.2.1 h1.2.2)/\W.cell? ⟨w.heap.size,1,none⟩=some (.slice (some ⟨bi,oi,none⟩) xn xc)/\W.cell? ⟨w.heap.size,2,none⟩=some (.int .i64 f1))/\(W.cell? ⟨w.heap.size+1,0,none⟩=some (.slice h2.1 h2.2.1 h2.2.2)/\W.cell? ⟨w.heap.size+1,1,none⟩=some (.slice x2.1 x2.2.1 x2.2.2)/\W.cell? ⟨w.heap.size+1,2,none⟩=some (.int .i64 f2)))/\(W.cell? ⟨bi,oi+c*4,none⟩=some (.int .i64 ki)/\W.cell? ⟨bi,oi+c*4+1,none⟩=some (.float .f64 ni)/\W.cell? ⟨bi,oi+c*4+2,none⟩=some (.int .i32 ci)/\W.cell? ⟨bi,oi+c*4+3,none⟩=some (.slice yi.1 yi.2.1 yi.2.2))/\RtS w wq h1 (some ⟨bi,oi,none⟩,xn,xc) f1 h2 x2 f2 W)
     (first | with_reducible assumption | (with_reducible (refine Qun HAT.out ?_);repeat (first | with_reducible assumption | with_reducible refine RtS.dr ?_ | with_reducible refine RtS.al ?_ _)))
     (first | (go_at_call 70;(with_reducible refine (HFC.out _ ?_).mono ?_);exact RtS.self (by repeat (first | with_reducible assumption | with_reducible refine RtS.dr ?_ | with_reducible refine RtS.al ?_ _));rintro e w1 ⟨z,rfl,hz,hb1⟩;have hst1:RtS w wq h1 (some ⟨bi,oi,none⟩,xn,xc) f1 h2 x2 f2 w1:=RtS.step (by repeat (first | with_reducible assumption | with_reducible refine RtS.dr ?_ | with_reducible refine RtS.al ?_ _)) hb1;have hzz:decide (z < x2.2.1)=bb:=(by rw [hz,HLB2.out]);clear hb1 hz))
    all_goals
     go_wp2
     go_meet
     exact ⟨by first | rfl | (rw [<- hzz]),hst1⟩
   obtain ⟨rfl,hst⟩:=hcut
   have HXB9:Hid (wc.heap[X]?=some (itO 0 0 0 nilS)):=by unfold Hid;rw [hst.bel.block _ (lt_blk HX0.out)];exact HX0.out
   have HTI9:=hD (HTI1.out.step hst.bel)
   have hXU:U.heap.size<=X:=HXU.out
   clear hst HFC HSTQ HAT HX0 HTI1 HWQ HXE HFN HIT HLB2 HXA p0 p1 p2
   obtain ⟨wy,hwy⟩:∃ wy,wy=wc:=⟨_,rfl⟩
   subst hwy
   cases bb with
   | false =>
    have HTI2:=HTI9
    have HXB:=HXB9
    rw [show Qai false=0 from rfl] at HTK
    clear HTI9 HXB9 HRB
    obtain ⟨⟨d0,d1,d2,d3⟩,dz⟩:=block4 HXB.out
    have HGG:Hid (wy.heap.size=wy.heap.size):=rfl
    have HSZ:Hid (U.heap.size<=wy.heap.size):=HTI2.out.sz
    have HAV:Hid (IV (fun b=>(fun b=>H b\/b=w.heap.size+2\/b=G) b\/(Value.slice vA vn vc).ownBlock=some b) wy (.mk 0 0 0 []) 0 0 0 nilS):=Qbr _ _ _ _ _ _ _
    obtain ⟨⟨e0,e1,e2⟩,ez⟩:=block3 HTI2.out.out
    have g1:=fun o=>Qab e1 o
    go_wp2_with (at_builtin;refine QaD rfl (.tmp 33) (.tmp 35) rfl (fun b=>H b\/b=w.heap.size+2\/b=G) U.heap.size (.slice vA vn vc) lc rfl HTI2.out.own ⟨0,0,0,nilS⟩ (.mk 0 0 0 []) HAV.out wy.heap.size HGG.out rfl HLB.out HSZ.out ?_;intro v' w' hown' hbw hlat hat2;(obtain ⟨vA',vn',vc',hvn'⟩:∃ A n c,v'= .slice A n c:=by (obtain ⟨a,c,e⟩:=hown'.len;exact ⟨a,_,c,e⟩));subst hvn';have HBW:=hD (hbw _ (Below.refl _ _));have HP:=hD (HTI2.out.push (.inr (.inr rfl)) HKU.out hown' HBW.out);(obtain ⟨⟨q0,q1,q2⟩,qz⟩:=block3 (show w'.heap[G]?=_ from (HBW.out.block _ HTI2.out.old).trans HTI2.out.out));clear hown' hbw hlat hat2)
    go_roundw
    case rel=>exact ⟨c+1,_,by omega,by go_num,by rw [HTK.out];exact HP.out⟩
    case measure=>simp [intOf];omega
   | true =>
    obtain ⟨⟨f0,f1c,f2c,f3⟩,fz⟩:=block4 HXB9.out
    have hsf:=fun md=>QaG (w:=wy) f1c (fz 1) .f64 one md
    obtain ⟨wz,hwz⟩:∃ wz,wz=wy.setCell ⟨X,1,none⟩ (.float .f64 one):=⟨_,rfl⟩
    have HWZ:=hD hwz
    have HXB:Hid (wz.heap[X]?=some (itO 0 one 0 nilS)):=by
     have h9:=heap_setCell_same wy X 1 _ _ (.float .f64 one) HXB9.out
     unfold Hid
     rw [hwz,h9]
     simp
    have HTI2:Hid (RtI (fun b=>H b\/b=w.heap.size+2\/b=G) w U G h1 (some ⟨bi,oi,none⟩,xn,xc) f1 h2 x2 f2 h1 0 lc (.slice vA vn vc) wz):=by
     have h9:=HTI9.out
     have hold:=h9.old
     unfold Hid
     rw [hwz]
     refine ⟨h9.own.flat HLF.out (fun b e=>Below.heap_setCell _ _ _ _ (hXV b e)),?_,h9.p3.more ((Below.refl _ wy).setCell (by show _<=X;omega) _),h9.lat.setU (.inr hXU) _,h9.big,hold⟩
     rw [Below.heap_setCell _ _ _ _ (by show G≠X;omega)]
     exact h9.out
    rw [show Qai true=one from rfl] at HTK
    clear HTI9 HXB9 hwz HRB f0 f1c f2c f3 fz
    go_upto_region 8 with fail
    rw [show one=4607182418800017408 from rfl,<- HWZ.out]
    obtain ⟨⟨d0,d1,d2,d3⟩,dz⟩:=block4 HXB.out
    have HGG:Hid (wz.heap.size=wz.heap.size):=rfl
    have HSZ:Hid (U.heap.size<=wz.heap.size):=HTI2.out.sz
    have HAV:Hid (IV (fun b=>(fun b=>H b\/b=w.heap.size+2\/b=G) b\/(Value.slice vA vn vc).ownBlock=some b) wz (.mk 0 one 0 []) 0 one 0 nilS):=Qbr _ _ _ _ _ _ _
    obtain ⟨⟨e0,e1,e2⟩,ez⟩:=block3 HTI2.out.out
    have g1:=fun o=>Qab e1 o
    go_wp2_with (at_builtin;refine QaD rfl (.tmp 33) (.tmp 35) rfl (fun b=>H b\/b=w.heap.size+2\/b=G) U.heap.size (.slice vA vn vc) lc rfl HTI2.out.own ⟨0,one,0,nilS⟩ (.mk 0 one 0 []) HAV.out wz.heap.size HGG.out rfl HLB.out HSZ.out ?_;intro v' w' hown' hbw hlat hat2;(obtain ⟨vA',vn',vc',hvn'⟩:∃ A n c,v'= .slice A n c:=by (obtain ⟨a,c,e⟩:=hown'.len;exact ⟨a,_,c,e⟩));subst hvn';have HBW:=hD (hbw _ (Below.refl _ _));have HP:=hD (HTI2.out.push (.inr (.inr rfl)) HKU.out hown' HBW.out);(obtain ⟨⟨q0,q1,q2⟩,qz⟩:=block3 (show w'.heap[G]?=_ from (HBW.out.block _ HTI2.out.old).trans HTI2.out.out));clear hown' hbw hlat hat2)
    go_roundw
    case rel=>exact ⟨c+1,_,by omega,by go_num,by rw [HTK.out];exact HP.out⟩
    case measure=>simp [intOf];omega
  ·obtain rfl:c=xn:=by omega
   have hge:¬ (c:Int) < (c:Int):=by omega
   obtain ⟨x',hx',hpv⟩:=HTI.out.done (H:=H) (.inr (.inr rfl)) (.inr (.inl rfl)) (fun b e => .inl e) HKU.out HRU.out (sv h1) (.slice vA vn vc) (.int .i64 0)
   obtain ⟨xA9,xn9,xc9⟩:=x'
   have h9:Value.slice vA vn vc= .slice xA9 xn9 xc9:=hx'
   injection h9 with h10 h11 h12
   subst h10;subst h11;subst h12
   have HPV:=hD hpv
   obtain ⟨⟨e0,e1,e2⟩,ez⟩:=block3 HTI.out.out
   obtain ⟨⟨z0,z1,z2⟩,zz⟩:=block3 HTI.out.p3.res
   have HRB9:=hD (Qae HTI.out.p3.res (sv h1) (.slice vA vn vc) (.int .i64 0))
   have HBB:=hD (Qaf HTI.out.p3.p2.bel (G:=w.heap.size+2) (by omega) (sv h1) (.slice vA vn vc) (.int .i64 0))
   clear hpv hx'
   go_wp2
   refine bodyPost_ret (v:=plV h1 (vA,vn,vc) 0) ?_ rfl (Qtw HPV.out HBB.out)
   exact QaI (fn:=Tryz.f37) (p:=4) rfl _ _ (w.heap.size+2) (by rfl) HRB9.out
def QtG (h x:Sl) (f z:Int) (most:Nat) (w:World) (e:Ending) (w':World):Prop:=∃ (h' x':Sl) (f' z':Int),e= .returned (.tuple #[plV h' x' f',.int .i64 z'])/\((z=0/\x.2.1<=most->z'=0/\h'=h/\x'=x/\f'=f)/\(¬ (z=0/\x.2.1<=most)->z'≠0))/\Below w.heap.size w w'
theorem QsA (h x:Sl) (f z:Int) (most:Nat) (W0:World):Calls Tryz.prog 40 #[plV h x f,.int .i64 z,.int .i64 (most:Int)] W0 (QtG h x f z most W0):=by
 have HS0:=hD (P1.new W0 h x f)
 obtain ⟨wz,hwz⟩:∃ wz,wz=(W0.alloc (plO h x f)).alloc (plO nilS nilS 0):=⟨_,rfl⟩
 rw [<- hwz] at HS0
 have HWZ:=hD hwz
 clear hwz
 have HBE:=fun a b c=>hD (Qaf HS0.out.bel (Nat.le_succ _) a b c)
 have HRE:=fun a b c=>hD (Qae HS0.out.res a b c)
 by_cases hz:z=0
 ·subst hz
  by_cases hm:x.2.1<=most
  ·have hm2:¬ ((most:Nat):Int) < ((x.2.1:Nat):Int):=by omega
   have hm3:decide (((most:Nat):Int) < ((x.2.1:Nat):Int))=false:=decide_eq_false hm2
   have HM:=hD hm
   clear hm
   go_enter Tryz.func40,Tryz.ntmps40
   go_upto_region 1 with fail
   rw [<- HWZ.out]
   obtain ⟨p0,p1,p2⟩:=Qax HS0.out.one
   obtain ⟨⟨z0,z1,z2⟩,zz⟩:=block3 HS0.out.res
   go_wp2
   refine bodyPost_ret (v := .tuple #[plV h x f,.int .i64 0]) ?_ rfl ⟨h,x,f,0,rfl,⟨fun _=>⟨rfl,rfl,rfl,rfl⟩,fun h9=>absurd ⟨rfl,HM.out⟩ h9⟩,(HBE _ _ _).out⟩
   exact Qfs (fn:=Tryz.f40) (p:=6) (u:=7) rfl _ _ (W0.heap.size+1) (by rfl) (HRE _ _ _).out
  ·have hm2:((most:Nat):Int) < ((x.2.1:Nat):Int):=by omega
   have hm3:decide (((most:Nat):Int) < ((x.2.1:Nat):Int))=true:=decide_eq_true hm2
   have HM:=hD hm
   clear hm
   go_enter Tryz.func40,Tryz.ntmps40
   go_upto_region 1 with fail
   rw [<- HWZ.out]
   obtain ⟨p0,p1,p2⟩:=Qax HS0.out.one
   obtain ⟨⟨z0,z1,z2⟩,zz⟩:=block3 HS0.out.res
   go_wp2
   refine bodyPost_ret (v := .tuple #[plV nilS nilS 0,.int .i64 26]) ?_ rfl ⟨nilS,nilS,0,26,rfl,⟨fun h9=>absurd h9.2 HM.out,fun _=>by decide⟩,(HBE _ _ _).out⟩
   exact Qfs (fn:=Tryz.f40) (p:=6) (u:=7) rfl _ _ (W0.heap.size+1) (by rfl) (HRE _ _ _).out
 ·have hz1:(z==0)=false:=by simpa using hz
  have HZ:=hD hz
  clear hz
  go_enter Tryz.func40,Tryz.ntmps40
  go_upto_region 1 with fail
  rw [<- HWZ.out]
  obtain ⟨p0,p1,p2⟩:=Qax HS0.out.one
  obtain ⟨⟨z0,z1,z2⟩,zz⟩:=block3 HS0.out.res
  go_wp2
  refine bodyPost_ret (v := .tuple #[plV h x f,.int .i64 z]) ?_ rfl ⟨h,x,f,z,rfl,⟨fun h9=>absurd h9.1 HZ.out,fun _=>HZ.out⟩,(HBE _ _ _).out⟩
  exact Qfs (fn:=Tryz.f40) (p:=6) (u:=7) rfl _ _ (W0.heap.size+1) (by rfl) (HRE _ _ _).out
theorem Qqa (f:Int) (a b:PA):(twA f a b).2.fill≠1:=by
 unfold twA
 rw [twoE]
 split
 ·show (default:PA).fill≠1;decide
 ·split
  ·show (default:PA).fill≠1;decide
  ·split
   ·dsimp only
    split
    ·show (default:PA).fill≠1;decide
    ·show (2:Nat)≠1;decide
   ·split
    ·show (default:PA).fill≠1;decide
    ·show (0:Nat)≠1;decide
abbrev phrO (F G:Int):Obj := .cells #[.int .i64 2,.int .i32 F,.int .i32 G] 49
structure DrS (W0:World) (F G:Int) (h1 x1:Sl) (f1:Int) (h2 x2:Sl) (f2:Int) (X:Nat) (u y:Sl) (gg:Int) (W:World):Prop where
 ph:W.heap[W0.heap.size]?=some (phrO F G)
 one:At3 W (W0.heap.size+1) 0 h1 x1 f1
 two:At3 W (W0.heap.size+1+1) 0 h2 x2 f2
 res:W.heap[W0.heap.size+1+1+1]?=some (plO nilS nilS 0)
 var:W.heap[X]?=some (plO u y gg)
 bel:Below W0.heap.size W0 W
 eqX:Hid (X=W0.heap.size+4)
theorem DrS.step {W0:World}{F G:Int}{h1 x1:Sl}{f1:Int}{h2 x2:Sl}{f2:Int}{X:Nat}{u y:Sl}{gg:Int}{W W':World} (s:DrS W0 F G h1 x1 f1 h2 x2 f2 X u y gg W) (hb:Below W.heap.size W W'):DrS W0 F G h1 x1 f1 h2 x2 f2 X u y gg W':=⟨by rw [hb.block _ (lt_blk s.ph)];exact s.ph,At3.belowP s.one hb,At3.belowP s.two hb,by rw [hb.block _ (lt_blk s.res)];exact s.res,by rw [hb.block _ (lt_blk s.var)];exact s.var,Qaa s.bel hb,s.eqX⟩
theorem DrS.dr {W0:World}{F G:Int}{h1 x1:Sl}{f1:Int}{h2 x2:Sl}{f2:Int}{X:Nat}{u y:Sl}{gg:Int}{W:World} (s:DrS W0 F G h1 x1 f1 h2 x2 f2 X u y gg W):DrS W0 F G h1 x1 f1 h2 x2 f2 X u y gg W.drew:=s.step (Below.refl _ W).drew
theorem DrS.al {W0:World}{F G:Int}{h1 x1:Sl}{f1:Int}{h2 x2:Sl}{f2:Int}{X:Nat}{u y:Sl}{gg:Int}{W:World} (s:DrS W0 F G h1 x1 f1 h2 x2 f2 X u y gg W) (o:Obj):DrS W0 F G h1 x1 f1 h2 x2 f2 X u y gg (W.alloc o):=s.step (bel1 W o)
theorem DrS.self {W0:World}{F G:Int}{h1 x1:Sl}{f1:Int}{h2 x2:Sl}{f2:Int}{X:Nat}{u y:Sl}{gg:Int}{W:World} (s:DrS W0 F G h1 x1 f1 h2 x2 f2 X u y gg W):DrS W0 F G h1 x1 f1 h2 x2 f2 X u y gg W:=s
theorem DrS.sz {W0:World}{F G:Int}{h1 x1:Sl}{f1:Int}{h2 x2:Sl}{f2:Int}{X:Nat}{u y:Sl}{gg:Int}{W:World} (s:DrS W0 F G h1 x1 f1 h2 x2 f2 X u y gg W):W0.heap.size+5<=W.heap.size:=by have:=lt_blk s.var;have h9:X=W0.heap.size+4:=s.eqX;omega
theorem DrS.up {W0:World}{F G:Int}{h1 x1:Sl}{f1:Int}{h2 x2:Sl}{f2:Int}{X:Nat}{u y:Sl}{gg:Int}{W W':World} (s:DrS W0 F G h1 x1 f1 h2 x2 f2 X u y gg W) (hb:Below (W0.heap.size+5) W W'):DrS W0 F G h1 x1 f1 h2 x2 f2 X u y gg W':=by
 have h9:X=W0.heap.size+4:=s.eqX
 exact ⟨by rw [hb.block _ (by omega)];exact s.ph,s.one.of fun j=>World.cell?_of_block (w:=W) (hb.block (W0.heap.size+1) (by omega)),s.two.of fun j=>World.cell?_of_block (w:=W) (hb.block (W0.heap.size+1+1) (by omega)),by rw [hb.block _ (by omega)];exact s.res,by rw [hb.block _ (by omega)];exact s.var,s.bel.trans (hb.mono (by omega)),s.eqX⟩
theorem DrS.put {W0:World}{F G:Int}{h1 x1:Sl}{f1:Int}{h2 x2:Sl}{f2:Int}{X:Nat}{u y:Sl}{gg:Int}{W:World} (s:DrS W0 F G h1 x1 f1 h2 x2 f2 X u y gg W){b j:Nat} (hb:W0.heap.size+5<=b) (v:Value):DrS W0 F G h1 x1 f1 h2 x2 f2 X u y gg (W.setCell ⟨b,j,none⟩ v):=s.up ((Below.refl _ W).setCell (by show _<=b;exact hb) v)
theorem QtH {W0:World}{F G:Int}{h1 x1:Sl}{f1:Int}{h2 x2:Sl}{f2:Int}{X:Nat}{u y:Sl}{gg:Int}{W:World} (s:DrS W0 F G h1 x1 f1 h2 x2 f2 X u y gg W):((W.cell? ⟨W0.heap.size,0,none⟩=some (.int .i64 2)/\W.cell? ⟨W0.heap.size,1,none⟩=some (.int .i32 F)/\W.cell? ⟨W0.heap.size,2,none⟩=some (.int .i32 G))/\(W.cell? ⟨W0.heap.size+1,0,none⟩=some (.slice h1.1 h1.2.1 h1.2.2)/\W.cell? ⟨W0.heap.size+1,1,none⟩=some (.slice x1.1 x1.2.1 x1.2.2)/\W.cell? ⟨W0.heap.size+1,2,none⟩=some (.int .i64 f1))/\(W.cell? ⟨W0.heap.size+1+1,0,none⟩=some (.slice h2.1 h2.2.1 h2.2.2)/\W.cell? ⟨W0.heap.size+1+1,1,none⟩=some (.slice x2.1 x2.2.1 x2.2.2)/\W.cell? ⟨W0.heap.size+1+1,2,none⟩=some (.int .i64 f2))/\(W.cell? ⟨X,0,none⟩=some (.slice u.1 u.2.1 u.2.2)/\W.cell? ⟨X,1,none⟩=some (.slice y.1 y.2.1 y.2.2)/\W.cell? ⟨X,2,none⟩=some (.int .i64 gg)))/\DrS W0 F G h1 x1 f1 h2 x2 f2 X u y gg W :=
 ⟨⟨⟨by rw [cell_of_row _ _ 0 _ _ (0,0) s.ph];rfl,by rw [cell_of_row _ _ 1 _ _ (0,0) s.ph];rfl,by rw [cell_of_row _ _ 2 _ _ (0,0) s.ph];rfl⟩,Qax s.one,Qax s.two,(block3 s.var).1⟩,s⟩
structure DrB (W0:World) (F G:Int) (h1 x1:Sl) (f1:Int) (h2 x2:Sl) (f2:Int) (W:World):Prop where
 ph:W.heap[W0.heap.size]?=some (phrO F G)
 one:At3 W (W0.heap.size+1) 0 h1 x1 f1
 two:At3 W (W0.heap.size+1+1) 0 h2 x2 f2
abbrev DrBC (W0:World) (F G:Int) (h1 x1:Sl) (f1:Int) (h2 x2:Sl) (f2:Int) (W:World):Prop:=((W.cell? ⟨W0.heap.size,0,none⟩=some (.int .i64 2)/\W.cell? ⟨W0.heap.size,1,none⟩=some (.int .i32 F)/\W.cell? ⟨W0.heap.size,2,none⟩=some (.int .i32 G))/\(W.cell? ⟨W0.heap.size+1,0,none⟩=some (.slice h1.1 h1.2.1 h1.2.2)/\W.cell? ⟨W0.heap.size+1,1,none⟩=some (.slice x1.1 x1.2.1 x1.2.2)/\W.cell? ⟨W0.heap.size+1,2,none⟩=some (.int .i64 f1))/\(W.cell? ⟨W0.heap.size+1+1,0,none⟩=some (.slice h2.1 h2.2.1 h2.2.2)/\W.cell? ⟨W0.heap.size+1+1,1,none⟩=some (.slice x2.1 x2.2.1 x2.2.2)/\W.cell? ⟨W0.heap.size+1+1,2,none⟩=some (.int .i64 f2)))
theorem DrS.b {W0:World}{F G:Int}{h1 x1:Sl}{f1:Int}{h2 x2:Sl}{f2:Int}{X:Nat}{u y:Sl}{gg:Int}{W:World} (s:DrS W0 F G h1 x1 f1 h2 x2 f2 X u y gg W):DrB W0 F G h1 x1 f1 h2 x2 f2 W:=⟨s.ph,s.one,s.two⟩
theorem Quo {W0:World}{F G:Int}{h1 x1:Sl}{f1:Int}{h2 x2:Sl}{f2:Int}{W:World} (s:DrB W0 F G h1 x1 f1 h2 x2 f2 W):DrBC W0 F G h1 x1 f1 h2 x2 f2 W/\DrB W0 F G h1 x1 f1 h2 x2 f2 W :=
 ⟨⟨⟨by rw [cell_of_row _ _ 0 _ _ (0,0) s.ph];rfl,by rw [cell_of_row _ _ 1 _ _ (0,0) s.ph];rfl,by rw [cell_of_row _ _ 2 _ _ (0,0) s.ph];rfl⟩,Qax s.one,Qax s.two⟩,s⟩
theorem DrS.set {W0:World}{F G:Int}{h1 x1:Sl}{f1:Int}{h2 x2:Sl}{f2:Int}{X:Nat}{u y:Sl}{gg:Int}{W:World} (s:DrS W0 F G h1 x1 f1 h2 x2 f2 X u y gg W) (u' y':Sl) (g':Int):DrS W0 F G h1 x1 f1 h2 x2 f2 X u' y' g' (set3 W X (sv u') (sv y') (.int .i64 g')):=by
 have h9:X=W0.heap.size+4:=s.eqX
 have hb:Below X W (set3 W X (sv u') (sv y') (.int .i64 g')):=Qaf (Below.refl _ W) (Nat.le_refl _) _ _ _
 exact ⟨by rw [hb.block _ (by omega)];exact s.ph,s.one.of fun j=>World.cell?_of_block (w:=W) (hb.block (W0.heap.size+1) (by omega)),s.two.of fun j=>World.cell?_of_block (w:=W) (hb.block (W0.heap.size+1+1) (by omega)),by rw [hb.block _ (by omega)];exact s.res,Qae s.var _ _ _,s.bel.trans (hb.mono (by omega)),s.eqX⟩
def PoV (H:Nat->Prop) (w:World) (r:Option PA) (e:Ending) (w':World):Prop :=
 ∃ (h x:Sl) (f z:Int),e= .returned (.tuple #[plV h x f,.int .i64 z])/\(∀ a,r=some a->z=0/\PV H w' (rawP a) h x f)/\Below w.heap.size w w'
theorem QtI {H:Nat->Prop}{w w':World}{r:Option PA}{z:Int} (hr:r=none) (hb:Below w.heap.size w w'):PoV H w r (.returned (.tuple #[plV nilS nilS 0,.int .i64 z])) w':=⟨nilS,nilS,0,z,rfl,(fun a ha=>by rw [hr] at ha;cases ha),hb⟩
def DrM (H:Nat->Prop) (W0:World) (F G:Int) (h1 x1:Sl) (f1:Int) (h2 x2:Sl) (f2:Int) (X:Nat) (r:Int×PA) (e:Value) (wx:World):Prop :=
 ∃ (u y:Sl) (gg:Int),e= .int .i64 r.1/\PvIf (fun b=>H b\/b=W0.heap.size+1+1+1\/b=X) r u y gg wx/\DrS W0 F G h1 x1 f1 h2 x2 f2 X u y gg wx
theorem QqA {H:Nat->Prop}{W0:World}{F G:Int}{h1 x1:Sl}{f1:Int}{h2 x2:Sl}{f2:Int}{X:Nat}{u y:Sl}{gg:Int}{r:Int×PA}{w5:World}{u' y':Sl}{g':Int} (hp:PvIf (fun b=>H b\/b=W0.heap.size+1+1+1\/b=X) r u' y' g' w5) (s:DrS W0 F G h1 x1 f1 h2 x2 f2 X u y gg w5):DrM H W0 F G h1 x1 f1 h2 x2 f2 X r (.int .i64 r.1) (set3 w5 X (sv u') (sv y') (.int .i64 g')) :=
 ⟨u',y',g',rfl,fun h0=>PV.lat (Lat.set3 (H:=(fun b=>H b\/b=W0.heap.size+1+1+1\/b=X)) (G:=X) (.inr (.inr rfl)) _ _ _) (hp h0),s.set u' y' g'⟩
theorem QsB {w1 W:World} (g:BelT w1 W):w1.heap.size<=W.heap.size:=Below.size g
theorem QsC {H:Nat->Prop}{W0 w2 W w5:World}{X:Nat}{r:Int×PA}{h x:Sl}{f:Int} (hp:PvIf (Hole (fun b=>H b\/b=W0.heap.size+1+1+1\/b=X) w2 W) r h x f w5):PvIf (fun b=>H b\/b=W0.heap.size+1+1+1) r h x f w5:=fun h0=>PV.sub (fun b _ e => .inl (by
 rcases e with e | e
 ·exact .inl e
 ·exact .inr (.inl e))) (hp h0)
theorem Qup {H:Nat->Prop}{W0 w2 W:World}{X:Nat} (b:Nat) (e:H b\/b=W0.heap.size+1+1+1):Hole (fun b=>H b\/b=W0.heap.size+1+1+1\/b=X) w2 W b := .inl (by
 rcases e with e | e
 ·exact .inl e
 ·exact .inr (.inl e))
def DrN (K:Nat->Prop) (W0:World) (F G:Int) (h1 x1:Sl) (f1:Int) (h2 x2:Sl) (f2:Int) (X:Nat) (u y:Sl) (gg:Int) (r:Int×PA) (v e:Value) (wx:World):Prop :=
 ∃ (V:Nat) (h' x':Sl) (f':Int),v= .pointer (some ⟨V,0,none⟩)/\e= .int .i64 r.1/\W0.heap.size+5<=V/\wx.heap[V]?=some (plO h' x' f')/\PvIf K r h' x' f' wx/\DrS W0 F G h1 x1 f1 h2 x2 f2 X u y gg wx
theorem QsD {K:Nat->Prop}{W0:World}{F G:Int}{h1 x1:Sl}{f1:Int}{h2 x2:Sl}{f2:Int}{X:Nat}{u y:Sl}{gg:Int}{w5:World}{h' x':Sl}{f':Int}{r:Int×PA} (hp:PvIf K r h' x' f' w5) (hst:DrS W0 F G h1 x1 f1 h2 x2 f2 X u y gg w5) :
  DrN K W0 F G h1 x1 f1 h2 x2 f2 X u y gg r (.pointer (some ⟨w5.heap.size,0,none⟩)) (.int .i64 r.1) (w5.alloc (plO h' x' f')) :=
 ⟨w5.heap.size,h',x',f',rfl,rfl,hst.sz,heap_alloc_new w5 _,fun h0=>(hp h0).step (bel1 w5 _),hst.al _⟩
theorem QsE {K K5:Nat->Prop}{W0:World}{F G:Int}{h1 x1:Sl}{f1:Int}{h2 x2:Sl}{f2:Int}{X:Nat}{u y:Sl}{gg:Int}{w5:World}{h' x':Sl}{f':Int}{r:Int×PA}{Z:Nat} (hp:PvIf K5 r h' x' f' w5) (hK:∀ b,K b->K5 b) (hKZ:K5 Z) (hst:DrS W0 F G h1 x1 f1 h2 x2 f2 X u y gg w5) (hz:ZO (plO nilS nilS 0) Z w5) (hZ:W0.heap.size+5<=Z) :
  DrN K W0 F G h1 x1 f1 h2 x2 f2 X u y gg r (.pointer (some ⟨Z,0,none⟩)) (.int .i64 r.1) (set3 w5 Z (sv h') (sv x') (.int .i64 f')) :=
 ⟨Z,h',x',f',rfl,rfl,hZ,Qae hz _ _ _,fun h0=>PV.sub (fun b _ e=>hK b e) (PV.lat (Lat.set3 (H:=K5) (G:=Z) hKZ _ _ _) (hp h0)),(((hst.put hZ _).put hZ _).put hZ _)⟩
theorem Qg8 {H:Nat->Prop}{a b:PA}{h1 x1 h2 x2:Sl}{f1 f2:Int} (F G:Int) (most:Nat) (hG:Qan G=0↔G=8714) (W0:World) (hH:∀ b,H b->b < W0.heap.size) (ga:PV H W0 (rawP a) h1 x1 f1) (gb:PV H W0 (rawP b) h2 x2 f2) (d:Nat) (hd:0 < d) (hga:GoodA (d+1) a) (hsa:SmA 1000000 a) (hgb:GoodA (d+1) b) (hsb:SmA 1000000 b) :
  Calls Tryz.prog 10 #[.agg #[.int .i64 2,.int .i32 F,.int .i32 G],plV h1 x1 f1,plV h2 x2 f2,.int .i64 (most:Int)] W0 (PoV H W0 (QfC (Qan F) (Qan G) a b most)):=by
 obtain ⟨X,hX⟩:∃ X,X=W0.heap.size+1+1+1+1:=⟨_,rfl⟩
 obtain ⟨r1,hr1⟩:∃ r1,r1=if Qan G=0 then ((0:Int),memA a b) else twA (Qan G) a b:=⟨_,rfl⟩
 obtain ⟨r2,hr2⟩:∃ r2,r2=QbG (Qan F) r1.2 false:=⟨_,rfl⟩
 have HRE:Hid (QfC (Qan F) (Qan G) a b most=(tolE most r1).bind fun x=>tolE most (QbG (Qan F) x false)):=by unfold Hid QfC;rw [<- hr1]
 have HN1:Hid (¬ (r1.1=0/\r1.2.len<=most)->QfC (Qan F) (Qan G) a b most=none):=fun h=>by
  rw [HRE.out]
  unfold tolE
  rw [if_pos (by by_cases h0:r1.1=0;exact .inr (by have:¬ r1.2.len<=most:=fun h9=>h ⟨h0,h9⟩;omega);exact .inl h0)]
  rfl
 have HN2:Hid ((r1.1=0/\r1.2.len<=most)->QfC (Qan F) (Qan G) a b most=tolE most r2):=fun h=>by
  rw [HRE.out,hr2]
  have e1:tolE most r1=some r1.2:=by
   unfold tolE
   rw [if_neg (by rintro (h9 | h9);exact h9 h.1;omega)]
  rw [e1]
  rfl
 have HGD:Hid (r1.1=0->GoodA (d+1) r1.2/\SmA 1000000 r1.2/\r1.2.fill≠1):=fun h0=>by
  rw [hr1] at h0 ⊢
  by_cases hg:Qan G=0
  ·rw [if_pos hg]
   refine ⟨QnO (Nat.succ_pos d) hga.sh.2,Qlj hsa.len,?_⟩
   show (0:Nat)≠1
   decide
  ·rw [if_neg hg] at h0 ⊢
   exact ⟨Qki hga hgb h0,Qic (by decide) hga hgb hsa hsb,Qqa _ _ _⟩
 have HSUB:∀ {t:RP} {h x:Sl} {f:Int},PV H W0 t h x f->PV (fun b=>H b\/b=W0.heap.size+1+1+1\/b=X) W0 t h x f:=fun g=>PV.sub (fun b hb e=>by
  rcases e with e | e | e
  ·exact e
  ·omega
  ·omega) g
 have hKb:∀ W:World,W0.heap.size+5<=W.heap.size->∀ b,(fun b=>H b\/b=W0.heap.size+1+1+1\/b=X) b->b < W.heap.size:=fun W hw b e=>by
  rcases e with e | e | e
  ·have:=hH b e;omega
  ·omega
  ·omega
 have HME:=hD (fun (u y:Sl) (gg:Int) W (s:DrS W0 F G h1 x1 f1 h2 x2 f2 X u y gg W)=>Qlx (H:=(fun b=>H b\/b=W0.heap.size+1+1+1\/b=X)) W (hKb W s.sz) (PV.step (HSUB ga) s.bel) (PV.step (HSUB gb) s.bel) (d+1) (d+1) hga hsa hgb hsb)
 have HTW:=hD (fun (u y:Sl) (gg:Int) W (s:DrS W0 F G h1 x1 f1 h2 x2 f2 X u y gg W)=>Qn0 (H:=(fun b=>H b\/b=W0.heap.size+1+1+1\/b=X)) (Qan G) W (hKb W s.sz) hga hgb hsa hsb (.inr (PV.step (HSUB ga) s.bel)) (.inr (PV.step (HSUB gb) s.bel)))
 have HFN:Hid (∀ (w2 W:World) (u y:Sl) (gg:Int),r1.1=0->PV (fun b=>H b\/b=W0.heap.size+1+1+1\/b=X) w2 (rawP r1.2) u y gg->W0.heap.size+5<=w2.heap.size->Below w2.heap.size w2 W->Calls Tryz.prog 41 #[.int .i64 (Qan F),plV u y gg,.bool false] W (RtU (Hole (fun b=>H b\/b=W0.heap.size+1+1+1\/b=X) w2 W) W r2)):=fun w2 W u y gg h0 hp hw2 hb=>by
  obtain ⟨q1,q2,q3⟩:=HGD.out h0
  rw [hr2]
  exact Qn7 (H:=Hole (fun b=>H b\/b=W0.heap.size+1+1+1\/b=X) w2 W) (w:=W) (hp.arg hb) (fun b e=>by
   rcases e with e | e
   ·have:=hKb w2 hw2 b e;have:=hb.size;omega
   ·exact e.2) d hd q1 q2 q2.len (Qan F) q3 W (Below.refl _ _)
 have HCF:=hD (fun W=>Qgp F W)
 have HCG:=hD (fun W=>Qgp G W)
 have HTO:=hD (fun h x f z W=>QsA h x f z most W)
 have HLN:Hid (∀ {K:Nat->Prop} {W:World} {u y:Sl} {gg:Int},PV K W (rawP r1.2) u y gg->y.2.1=r1.2.len):=fun g=>(Qap g).2.2
 have HLN2:Hid (∀ {K:Nat->Prop} {W:World} {u y:Sl} {gg:Int},PV K W (rawP r2.2) u y gg->y.2.1=r2.2.len):=fun g=>(Qap g).2.2
 obtain ⟨cB,hcB⟩:∃ cB:Bool,(G==8714)=cB:=⟨_,rfl⟩
 have HR1A:Hid (cB=true->r1=(0,memA a b)):=fun e=>by rw [hr1,if_pos (hG.2 (by rw [e] at hcB;simpa using hcB))]
 have HR1B:Hid (cB=false->r1=twA (Qan G) a b):=fun e=>by rw [hr1,if_neg (fun h9=>by have:=hG.1 h9;rw [e] at hcB;simp [this] at hcB)]
 generalize QfC (Qan F) (Qan G) a b most=res at *
 have HS0:Hid (DrS W0 F G h1 x1 f1 h2 x2 f2 X nilS nilS 0 (((((W0.alloc (phrO F G)).alloc (plO h1 x1 f1)).alloc (plO h2 x2 f2)).alloc (plO nilS nilS 0)).alloc (plO nilS nilS 0))):=by
  have e1:(W0.alloc (phrO F G)).heap.size=W0.heap.size+1:=by simp
  have e2:((W0.alloc (phrO F G)).alloc (plO h1 x1 f1)).heap.size=W0.heap.size+1+1:=by simp
  have e3:(((W0.alloc (phrO F G)).alloc (plO h1 x1 f1)).alloc (plO h2 x2 f2)).heap.size=W0.heap.size+1+1+1:=by simp
  have e4:((((W0.alloc (phrO F G)).alloc (plO h1 x1 f1)).alloc (plO h2 x2 f2)).alloc (plO nilS nilS 0)).heap.size=W0.heap.size+1+1+1+1:=by simp
  have b1:=heap_alloc_new W0 (phrO F G)
  have b2:=Qbd (W0.alloc (phrO F G)) h1 x1 f1
  have b3:=Qbd ((W0.alloc (phrO F G)).alloc (plO h1 x1 f1)) h2 x2 f2
  have b4:=heap_alloc_new (((W0.alloc (phrO F G)).alloc (plO h1 x1 f1)).alloc (plO h2 x2 f2)) (plO nilS nilS 0)
  have b5:=heap_alloc_new ((((W0.alloc (phrO F G)).alloc (plO h1 x1 f1)).alloc (plO h2 x2 f2)).alloc (plO nilS nilS 0)) (plO nilS nilS 0)
  rw [e1] at b2
  rw [e2] at b3
  rw [e3] at b4
  rw [e4,<- hX] at b5
  exact ⟨QaJ (QaJ (QaJ (QaJ b1 _) _) _) _,At3.belowP (At3.belowP (At3.belowP b2 (bel1 _ _)) (bel1 _ _)) (bel1 _ _),At3.belowP (At3.belowP b3 (bel1 _ _)) (bel1 _ _),QaJ b4 _,b5,Qaa (Qaa (Qaa (Qaa (bel1 _ _) (bel1 _ _)) (bel1 _ _)) (bel1 _ _)) (bel1 _ _),by unfold Hid;omega⟩
 obtain ⟨wz,hwz⟩:∃ wz,wz=((((W0.alloc (phrO F G)).alloc (plO h1 x1 f1)).alloc (plO h2 x2 f2)).alloc (plO nilS nilS 0)).alloc (plO nilS nilS 0):=⟨_,rfl⟩
 rw [<- hwz] at HS0
 have HWZ:=hD hwz
 have HXE:=hD hX
 unfold PzR at HME
 unfold RtU at HTW HFN
 unfold QtG at HTO
 clear ga gb hga hsa hgb hsb hr1 hr2 HRE HGD HSUB hKb hwz hX hG hH
 go_enter Tryz.func10,Tryz.ntmps10
 go_upto_region 2 with fail
 rw [<- HWZ.out,<- HXE.out]
 obtain ⟨⟨⟨c0,c1,c2⟩,⟨p0,p1,p2⟩,⟨q0,q1,q2⟩,⟨z0,z1,z2⟩⟩,-⟩:=QtH HS0.out
 go_upto_if 16 with fail
 go_cut [11] from 17 (fun e wx=>DrM H W0 F G h1 x1 f1 h2 x2 f2 X r1 e wx)
 case first =>
  cases cB with
  | true =>
   have HR:=hD (HR1A.out rfl)
   go_wp2_with fail
   refine (HME.out _ _ _ _ HS0.out).mono ?_
   rintro e w2 ⟨h',x',f',rfl,hp,hb⟩
   have HS2:=hD (HS0.out.step hb)
   have HP:=hD hp
   clear hb hp c0 c1 c2 p0 p1 p2 q0 q1 q2 z0 z1 z2
   obtain ⟨⟨z0,z1,z2⟩,zz⟩:=block3 HS2.out.var
   have HDM:=hD (QqA (H:=H) (r:=((0:Int),memA a b)) (u':=h') (y':=x') (g':=f') (w5:=w2) (fun _=>HP.out) HS2.out)
   go_wp2
   go_meet
   rw [HR.out]
   exact HDM.out
  | false =>
   have HR:=hD (HR1B.out rfl)
   rw [<- HR.out] at HTW
   go_upto_region 4 with fail
   have hs0:=HS0.out.dr
   have hs00:=HS0.out
   clear c0 c1 c2 p0 p1 p2 q0 q1 q2 z0 z1 z2
   obtain ⟨u,hu⟩:∃ u:Sl,u=nilS:=⟨_,rfl⟩
   have HU:=hD hu
   rw [<- hu] at hs0 hs00
   obtain ⟨gg,hgg⟩:∃ gg:Int,gg=0:=⟨_,rfl⟩
   rw [<- hgg] at hs0 hs00
   obtain ⟨y,hy⟩:∃ y:Sl,y=u:=⟨_,rfl⟩
   clear hu hgg
   have hs1:DrS W0 F G h1 x1 f1 h2 x2 f2 X u y gg wz:=by rw [hy];exact hs00
   have hs2:DrS W0 F G h1 x1 f1 h2 x2 f2 X u y gg wz.drew:=hs1.dr
   clear hs0 hs00 hy
   have HTWs:=hD (fun W (s:DrS W0 F G h1 x1 f1 h2 x2 f2 X u y gg W)=>HTW.out u y gg W s)
   go_region_held3 (fun W=>DrBC W0 F G h1 x1 f1 h2 x2 f2 W/\DrB W0 F G h1 x1 f1 h2 x2 f2 W)
    (first | with_reducible assumption | (with_reducible (refine Quo ?_);first | with_reducible exact DrS.b hs2 | with_reducible exact DrS.b hst1 | with_reducible exact DrS.b hst5 | exact DrS.b hset5))
    (first
     | (go_at_call 39;(with_reducible refine (HCG.out _).mono ?_);rintro e w1 ⟨rfl,hb1⟩;have hst1:DrS W0 F G h1 x1 f1 h2 x2 f2 X u y gg w1:=DrS.step (by repeat (first | with_reducible assumption | with_reducible refine DrS.dr ?_ | with_reducible refine DrS.al ?_ _)) hb1;clear hb1)
     | (go_at_call 38;(with_reducible refine (HTWs.out _ ?_).mono ?_);exact DrS.self (by repeat (first | with_reducible assumption | with_reducible refine DrS.dr ?_ | with_reducible refine DrS.al ?_ _));rintro e w5 ⟨h5,x5,f5,rfl,hp5,hb5⟩;have hst5:DrS W0 F G h1 x1 f1 h2 x2 f2 X u y gg w5:=DrS.step (by repeat (first | with_reducible assumption | with_reducible refine DrS.dr ?_ | with_reducible refine DrS.al ?_ _)) hb5;(obtain ⟨⟨v0,v1,v2⟩,vz⟩:=block3 hst5.var);have hset5:=hst5.set h5 x5 f5;have HP5:=hD hp5;clear hb5 hp5))
   all_goals
    go_wp2
    go_meet
    exact QqA (H:=H) HP5.out hst5
 obtain ⟨u,y,gg,rfl,hpi,hst⟩:=hcut
 have HST:=hD hst
 have HPI:=hD hpi
 clear hst hpi HS0 HWZ HME HTW HCG HR1A HR1B c0 c1 c2 p0 p1 p2 q0 q1 q2 z0 z1 z2
 obtain ⟨⟨z0,z1,z2⟩,zz⟩:=block3 HST.out.var
 go_wp2_with fail
 refine (HTO.out _ _ _ _ _).mono ?_
 rintro e w3 ⟨h3,x3,f3,z3,rfl,⟨hc1,hc2⟩,hb3⟩
 have HS3:=hD (HST.out.step hb3)
 have HC1:=hD hc1
 have HC2:=hD hc2
 have HB3:=hD hb3
 clear hc1 hc2 hb3 z0 z1 z2 zz
 obtain ⟨⟨z0,z1,z2⟩,zz⟩:=block3 HS3.out.var
 obtain ⟨w4,hw4⟩:∃ w4,w4=((w3.setCell ⟨X,0,none⟩ (.slice h3.1 h3.2.1 h3.2.2)).setCell ⟨X,1,none⟩ (.slice x3.1 x3.2.1 x3.2.2)).setCell ⟨X,2,none⟩ (.int .i64 f3):=⟨_,rfl⟩
 have HW4:=hD hw4
 have HS4:Hid (DrS W0 F G h1 x1 f1 h2 x2 f2 X h3 x3 f3 w4):=by unfold Hid;rw [hw4];exact HS3.out.set h3 x3 f3
 clear hw4
 by_cases hz3:z3=0
 ·have hcc:r1.1=0/\y.2.1<=most:=Classical.byContradiction fun h9=>HC2.out h9 hz3
  obtain ⟨hz0,rfl,rfl,rfl⟩:=HC1.out hcc
  subst hz3
  have HP4:Hid (PV (fun b=>H b\/b=W0.heap.size+1+1+1\/b=X) w4 (rawP r1.2) h3 x3 f3):=by
   unfold Hid
   rw [HW4.out]
   exact PV.lat (Lat.set3 (H:=(fun b=>H b\/b=W0.heap.size+1+1+1\/b=X)) (G:=X) (.inr (.inr rfl)) _ _ _) ((HPI.out hcc.1).step HB3.out)
  have hlen:=HLN.out HP4.out
  have HRES:=hD (HN2.out ⟨hcc.1,by rw [<- hlen];exact hcc.2⟩)
  have HFNs:=hD (fun W (hb:Below w4.heap.size w4 W)=>HFN.out w4 W h3 x3 f3 hcc.1 HP4.out HS4.out.sz hb)
  have hs5:=HS4.out.sz
  clear HC1 HC2 hz0 HST HPI HB3 HS3 HFN HP4 hcc hlen HN1 HN2 HLN
  go_upto_region 8 with fail
  rw [<- HW4.out]
  go_cut [12,11] from 40 (fun v e wx=>DrN (fun b=>H b\/b=W0.heap.size+1+1+1) W0 F G h1 x1 f1 h2 x2 f2 X h3 x3 f3 r2 v e wx)
  case first =>
   have hs0:=HS4.out.dr
   have hs00:=HS4.out
   go_region_held3 (fun W=>((W.cell? ⟨W0.heap.size,0,none⟩=some (.int .i64 2)/\W.cell? ⟨W0.heap.size,1,none⟩=some (.int .i32 F)/\W.cell? ⟨W0.heap.size,2,none⟩=some (.int .i32 G))/\(W.cell? ⟨W0.heap.size+1,0,none⟩=some (.slice h1.1 h1.2.1 h1.2.2)/\W.cell? ⟨W0.heap.size+1,1,none⟩=some (.slice x1.1 x1.2.1 x1.2.2)/\W.cell? ⟨W0.heap.size+1,2,none⟩=some (.int .i64 f1))/\(W.cell? ⟨W0.heap.size+1+1,0,none⟩=some (.slice h2.1 h2.2.1 h2.2.2)/\W.cell? ⟨W0.heap.size+1+1,1,none⟩=some (.slice x2.1 x2.2.1 x2.2.2)/\W.cell? ⟨W0.heap.size+1+1,2,none⟩=some (.int .i64 f2))/\(W.cell? ⟨X,0,none⟩=some (.slice h3.1 h3.2.1 h3.2.2)/\W.cell? ⟨X,1,none⟩=some (.slice x3.1 x3.2.1 x3.2.2)/\W.cell? ⟨X,2,none⟩=some (.int .i64 f3)))/\DrS W0 F G h1 x1 f1 h2 x2 f2 X h3 x3 f3 W)
    (first | with_reducible assumption | (with_reducible (refine QtH ?_);repeat (first | with_reducible assumption | with_reducible refine DrS.dr ?_ | with_reducible refine DrS.al ?_ _ | (with_reducible refine DrS.put ?_ (by first | assumption | omega | (simp;omega)) _))))
    (first
     | (go_at_call 39;(with_reducible refine (HCF.out _).mono ?_);rintro e w1 ⟨rfl,hb1⟩;have hst1:DrS W0 F G h1 x1 f1 h2 x2 f2 X h3 x3 f3 w1:=DrS.step (by repeat (first | with_reducible assumption | with_reducible refine DrS.dr ?_ | with_reducible refine DrS.al ?_ _)) hb1;have hbl1:BelT w4 w1:=BelT.step (by repeat (first | with_reducible assumption | with_reducible exact BelT.refl _ | with_reducible refine BelT.dr ?_ | with_reducible refine BelT.al ?_ _)) hb1;have HB1:=hD hb1;obtain ⟨hc1,hfz1⟩:=bcell2 hb1;have hz1:=hb1.size;have hs1z:=hst1.sz;(first | (have hsq1:w4.heap.size < w1.heap.size:=Nat.lt_of_lt_of_le (Qa5 _ _) hz1) | (have hsq1:w4.heap.size < w1.heap.size:=Nat.lt_of_lt_of_le (Qa6 _ _) hz1) | skip);clear hb1)
     | (go_at_call 41;(with_reducible refine (HFNs.out _ ?_).mono ?_);exact BelT.self (by repeat (first | with_reducible assumption | with_reducible exact BelT.refl _ | with_reducible refine BelT.dr ?_ | with_reducible refine BelT.al ?_ _));rintro e w5 ⟨h5,x5,f5,rfl,hp5,hb5⟩;have hst5:DrS W0 F G h1 x1 f1 h2 x2 f2 X h3 x3 f3 w5:=DrS.step (by repeat (first | with_reducible assumption | with_reducible refine DrS.dr ?_ | with_reducible refine DrS.al ?_ _)) hb5;obtain ⟨hc5,hfz5⟩:=bcell2 hb5;have hz5:=hb5.size;have hs5z:=hst5.sz;(first | (have hsq5:w1.heap.size < w5.heap.size:=Nat.lt_of_lt_of_le (Qa5 _ _) hz5) | (have hsq5:w1.heap.size < w5.heap.size:=Nat.lt_of_lt_of_le (Qa6 _ _) hz5) | (have hsq5:w1.heap.size<=w5.heap.size:=hz5) | skip);(first | (have hsr5:w4.heap.size < w5.heap.size:=Nat.lt_of_lt_of_le hsq1 (Nat.le_of_lt hsq5)) | (have hsr5:w4.heap.size < w5.heap.size:=Nat.lt_of_lt_of_le hsq1 hsq5) | skip);have HB5:=hD hb5;have HP5:=hD hp5;clear hb5 hp5))
   all_goals
    go_wp2
    go_meet
    first
     | (with_reducible exact QsD (QsC HP5.out) hst5)
     | (with_reducible refine QsE HP5.out Qup (.inr ⟨?_,?_⟩) hst5 (ZO.step ?_ HB5.out) ?_;all_goals (first | with_reducible exact Nat.le_refl _ | with_reducible exact Qa5 _ _ | with_reducible exact Qa6 _ _ | exact hs5 | exact hs1z | exact hsq1 | exact QsB hbl1 | exact HB1.out.size | omega | (repeat (first | with_reducible exact ZO.new _ _ | with_reducible refine ZO.dr ?_ | with_reducible refine ZO.step ?_ HB1.out))))
  obtain ⟨V,h9,x9,f9,rfl,rfl,hVl,hV,hp9,hst⟩:=hcut
  have HV:=hD hV
  have HP9:=hD hp9
  have HS9:=hD hst
  clear hV hp9 hst HFNs HCF HS4 HW4
  obtain ⟨⟨v0,v1,v2⟩,vz⟩:=block3 HV.out
  go_wp2_with fail
  refine (HTO.out _ _ _ _ _).mono ?_
  rintro e w7 ⟨h7,x7,f7,z7,rfl,⟨hc1,hc2⟩,hb7⟩
  have HS7:=hD (HS9.out.step hb7)
  have HC1:=hD hc1
  have HC2:=hD hc2
  have HB7:=hD hb7
  clear hc1 hc2 hb7 v0 v1 v2 vz HTO
  obtain ⟨⟨y0,y1,y2⟩,yz⟩:=block3 HS7.out.res
  go_wp2
  refine bodyPost_ret (v := .tuple #[plV h7 x7 f7,.int .i64 z7]) ?_ rfl ⟨h7,x7,f7,z7,rfl,?_,Qaf HS7.out.bel (Nat.le_add_right _ 3) _ _ _⟩
  exact Qfs (fn:=Tryz.f10) (p:=8) (u:=9) rfl _ _ (W0.heap.size+3) (by rfl) (Qae HS7.out.res _ _ _)
  intro a9 ha9
  rw [HRES.out] at ha9
  unfold tolE at ha9
  split at ha9
  ·cases ha9
  ·rename_i hno
   injection ha9 with ha9
   subst ha9
   have h20:r2.1=0:=Classical.byContradiction fun h=>hno (.inl h)
   have hp:=HP9.out h20
   have hl:x9.2.1<=most:=by rw [HLN2.out hp];exact Nat.le_of_not_lt (fun h=>hno (.inr h))
   obtain ⟨q0,q1,q2,q3⟩:=HC1.out ⟨h20,hl⟩
   subst q0;subst q1;subst q2;subst q3
   exact ⟨rfl,PV.sub (fun _ _ e => .inl e) (PV.lat (Lat.set3 (H:=fun b=>H b\/b=W0.heap.size+1+1+1) (G:=W0.heap.size+1+1+1) (.inr rfl) _ _ _) (hp.step HB7.out))⟩
 ·have ne:(z3 != 0)=true:=by simpa using hz3
  have HR0:Hid (res=none):=HN1.out fun h9=>hz3 (HC1.out ⟨h9.1,by rw [HLN.out (HPI.out h9.1)];exact h9.2⟩).1
  clear HC1 HC2 HN1 HN2 HFN HPI HLN HLN2 HTO HCF hz3
  go_upto_region 6 with fail
  rw [<- HW4.out]
  obtain ⟨⟨y0,y1,y2⟩,yz⟩:=block3 HS4.out.res
  go_wp2
  refine bodyPost_ret (v := .tuple #[plV nilS nilS 0,.int .i64 z3]) ?_ rfl (QtI HR0.out (Qaf HS4.out.bel (Nat.le_add_right _ 3) _ _ _))
  exact Qfs (fn:=Tryz.f10) (p:=8) (u:=9) rfl _ _ (W0.heap.size+3) (by rfl) (Qae HS4.out.res _ _ _)
end Go.Proofs.YtdelgpelkfndeaaGreatDoor
