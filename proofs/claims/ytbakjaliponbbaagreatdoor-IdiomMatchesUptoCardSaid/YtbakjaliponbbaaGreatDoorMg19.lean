/- value.of, value.Of and rebuslaw07.Of of good plain arrays. A region that draws its order, whose operations read and whose callees may make memory: walked once, .. Conditions: as each theorem says. -/
import Derived.Test.YtbakjaliponbbaaGreatDoorMg17
import Derived.Test.YtbakjaliponbbaaGreatDoorMg18
import Derived.BigQuiet
import Derived.Test.YtbakjaliponbbaaGreatDoorMg01
import Derived.Test.YtbakjaliponbbaaGreatDoorMg04
import Derived.Test.YtbakjaliponbbaaGreatDoorMg16
set_option maxRecDepth 100000
set_option maxHeartbeats 4000000
namespace Go.Proofs.YtbakjaliponbbaaGreatDoor
open Go Go.RowKit Go.Proofs Fl
theorem aof_walk:∀ (d:Nat) (H:Nat->Prop) (t:RP) (h x:Sl) (f:Int) (w:World),d<=40->(∀ b,H b->b < w.heap.size)->OkP d t->cntP t<=1000000->PV H w t h x f ->
  Calls Tryz.prog 100 #[plV h x f,.int .i64 (d:Int)] w (AvR H w (clP t))
 | 0,_,.mk s items fill,_,_,_,_,_,_,hok,_,_=>by rw [OkP] at hok;exact absurd hok.1 (Nat.lt_irrefl _)
 | d+1,H,.mk s items fill,h,x,f,w,hd,hH,hok,hM,hr=>by
  obtain ⟨_,rfl,_,_⟩:=hr.open_
  rw [OkP] at hok
  obtain ⟨_,hf,⟨sn,rfl,hs⟩,hi⟩:=hok
  rcases hf with rfl | rfl | rfl
  ·exact of_0 H d (by omega) sn items h x w hH hi hs hM hr
  ·exact of_1 H d (by omega) sn items h x w hH hi hs hM hr
  ·exact of_2 H d (by omega) (fun H t h x f w h0 h1 h2 h3=>aof_walk d H t h x f w (by omega) h0 h1 h2 h3) sn items h x w hH hi hs hM hr
theorem vOf_any (H:Nat->Prop) (t:RP) (h x:Sl) (f:Int) (w:World) (hH:∀ b,H b->b < w.heap.size) (hok:OkP 40 t) (hM:cntP t<=1000000) (hr:PV H w t h x f) :
  Calls Tryz.prog 49 #[plV h x f] w (AvR H w (clP t)):=by
 have HI0:=Lib.hid (OfI.new w h x f)
 have HC:=Lib.hid (aof_walk 40 (Hole H w ((w.alloc (.cells #[sv h,sv x,.int .i64 f] 44)).alloc (.cells zeroL 59))) t h x f _ (Nat.le_refl _) (Hole.lt hH HI0.out.bel) hok hM (hr.arg HI0.out.bel))
 unfold AvR at HC
 have HH:=Lib.hid hH
 clear hok hM hr hH
 go_enter Tryz.func49,Tryz.ntmps49
 obtain ⟨c0,c1,c2⟩:=HI0.out.arg
 go_wp2_with fail
 refine HC.out.mono ?_
 rintro e w1 ⟨h',p,rfl,hav,hb⟩
 have HOF:=Lib.hid (HI0.out.step hb)
 have HAV:=Lib.hid hav
 have hlt:w.heap.size+1 < ((w.alloc (.cells #[sv h,sv x,.int .i64 f] 44)).alloc (.cells zeroL 59)).heap.size:=lt_blk HI0.out.res
 have HLT:=Lib.hid hlt
 obtain ⟨⟨z0,z1,z2,z3,z4,z5,z6,z7,z8⟩,zz⟩:=zero_block HOF.out.res
 clear hb hav hlt c0 c1 c2
 go_wp2
 refine bodyPost_ret (v := .tuple #[arrV h' p,.int .i64 0]) ?_ rfl ⟨h',p,rfl,AV.sub (fun b _ e => .inl e) (AV.lat (Lat.set9 (G:=w.heap.size+1) (.inr ⟨by omega,HLT.out⟩) _ _ _ _ _ _ _ _ _) HAV.out),below_set9 HOF.out.bel (Nat.le_succ _) _ _ _ _ _ _ _ _ _⟩
 exact ret_arr2 (fn:=Tryz.f49) (p:=2) (u:=3) rfl _ _ (w.heap.size+1) (by rfl) (set9_block HOF.out.res _ _ _ _ _ _ _ _ _)
theorem blk_alloc {W:World}{G:Nat}{o:Obj} (h:W.heap[G]?=some o) (o':Obj):(W.alloc o').heap[G]?=some o:=by
 rw [(bel1 W o').block G (lt_blk h)];exact h
def AaR (H:Nat->Prop) (w:World) (a:PA) (e:Ending) (w':World):Prop:=∃ h p,e= .returned (arrV h p)/\AV H w' a h p/\Below w.heap.size w w'
theorem lawOf_any (H:Nat->Prop) (t:RP) (h x:Sl) (f:Int) (w:World) (hH:∀ b,H b->b < w.heap.size) (hok:OkP 40 t) (hM:cntP t<=1000000) (hr:PV H w t h x f) :
  Calls Tryz.prog 17 #[plV h x f] w (AaR H w (clP t)):=by
 have HI0:=Lib.hid (OfI.new w h x f)
 have HC:=Lib.hid (vOf_any (Hole H w ((w.alloc (.cells #[sv h,sv x,.int .i64 f] 44)).alloc (.cells zeroL 59))) t h x f _ (Hole.lt hH HI0.out.bel) hok hM (hr.arg HI0.out.bel))
 unfold AvR at HC
 have HH:=Lib.hid hH
 clear hok hM hr hH
 go_enter Tryz.func17,Tryz.ntmps17
 obtain ⟨c0,c1,c2⟩:=HI0.out.arg
 go_wp2_with fail
 refine HC.out.mono ?_
 rintro e w1 ⟨h',p,rfl,hav,hb⟩
 have HOF:=Lib.hid (HI0.out.step hb)
 have HAV:=Lib.hid hav
 have hlt:w.heap.size+1 < ((w.alloc (.cells #[sv h,sv x,.int .i64 f] 44)).alloc (.cells zeroL 59)).heap.size:=lt_blk HI0.out.res
 have HLT:=Lib.hid hlt
 obtain ⟨⟨y0,y1,y2,y3,y4,y5,y6,y7,y8⟩,yz⟩:=zero_block HOF.out.res
 have hl1:w.heap.size+1 < w1.heap.size:=lt_blk HOF.out.res
 have b0:=fun o=>cell_box1 y0 o
 have b1:=fun o=>cell_box1 y1 o
 have b2:=fun o=>cell_box1 y2 o
 have b3:=fun o=>cell_box1 y3 o
 have b4:=fun o=>cell_box1 y4 o
 have b5:=fun o=>cell_box1 y5 o
 have b6:=fun o=>cell_box1 y6 o
 have b7:=fun o=>cell_box1 y7 o
 have b8:=fun o=>cell_box1 y8 o
 have u0:=fun (j:Nat) o=>frozen_box (j:=0) y0 yz o
 have u1:=fun o=>frozen_box y1 yz o
 have u2:=fun o=>frozen_box y2 yz o
 have u3:=fun o=>frozen_box y3 yz o
 have u4:=fun o=>frozen_box y4 yz o
 have u5:=fun o=>frozen_box y5 yz o
 have u6:=fun o=>frozen_box y6 yz o
 have u7:=fun o=>frozen_box y7 yz o
 have u8:=fun o=>frozen_box y8 yz o
 have u00:=fun o=>frozen_box y0 yz o
 clear hb hav hlt c0 c1 c2 u0
 go_wp2
 refine bodyPost_ret (v:=arrV h' p) ?_ rfl ⟨h',p,rfl,AV.sub (fun b _ e => .inl e) (AV.step (AV.lat (Lat.set9 (G:=w.heap.size+1) (.inr ⟨by omega,HLT.out⟩) _ _ _ _ _ _ _ _ _) HAV.out) (bel1 _ _)),bel_both (below_set9 HOF.out.bel (Nat.le_succ _) _ _ _ _ _ _ _ _ _) (bel1 _ _)⟩
 exact ret_arr (fn:=Tryz.f17) (p:=2) rfl _ _ (w.heap.size+1) (by rfl) (blk_alloc (set9_block HOF.out.res _ _ _ _ _ _ _ _ _) _)
structure LatW (w:World) where
 W:World
 h:Below w.heap.size w W
instance latW_some (w:World):Nonempty (LatW w):=⟨⟨w,Below.refl _ _⟩⟩
theorem LatW.cell {w:World}{g:Nat} (hg:g < w.heap.size):∀ (n:LatW w) (o:Nat),n.W.cell? ⟨g,o,none⟩=w.cell? ⟨g,o,none⟩:=fun n _=>n.h.cell (p:=⟨g,_,none⟩) hg
theorem region_calm {P:Program}{id:Nat}{Q:Exit->Act->World->Prop}{a:Act}{w:World}{l:List Oper} (hm:P.follows .mixedOrders=true) (hB:Region.lexB .any l.toArray=true)
  (h:wpQuiet P l.toArray (fun w'=>∃ n:LatW w,w'=n.W) (fun a'=>∀ w',(∃ n:LatW w,w'=n.W)->Q .normal a' w') l a):(Code.region id l.toArray true).wp P Q a w :=
 wp_region_quiet (C:=fun w'=>∃ n:LatW w,w'=n.W) hm hB ⟨⟨w.drew,(Below.refl _ w).drew⟩,rfl⟩ (by simpa using h)
theorem calm_of {P:Program}{f:FuncId}{args:Array Value}{w:World}{n:LatW w}{v:Value}
  (h:Calls P f args n.W fun e w'=>e= .returned v/\Below n.W.heap.size n.W w'):Calls P f args n.W fun e w''=>e= .returned v/\∃ m:LatW w,w''=m.W :=
 h.mono fun _ _ ⟨he,hb⟩=>⟨he,⟨_,bel_both n.h hb⟩,rfl⟩
instance:Inhabited RTree:=⟨.mk 0 [] [] ⟨#[]⟩ 0 []⟩
def nameR:RTree->ByteArray
 | .mk _ _ _ n _ _=>n
def charR:RTree->Int
 | .mk _ _ _ _ c _=>c
def kidsR:RTree->List RTree
 | .mk _ _ _ _ _ l=>l
def kidR (t:RTree) (i:Nat):RTree:=(kidsR t).getD i default
def primR (t:RTree):Int:=if kindR t=13 then charR t else 0
def foldR (t:RTree):Int:=if kindR t=16/\charR t=47 then primR (kidR t 0) else 0
def sameV (a b:RTree):Bool:=decide (kindR a=3)&&decide (kindR b=3)&&decide ((nameR a).toList=(nameR b).toList)
abbrev Phr:Type:=(Int×Int×Int)×Bool
def noP:Phr:=((0,0,0),false)
def toldP (a b c:Int) (ok:Bool):Phr:=if ok then ((a,b,c),true) else noP
def mtOne (t:RTree):Phr :=
 if kindR (kidR t 1)=9 then toldP 1 (primR (kidR t 0)) (primR (kidR (kidR t 1) 0)) (chnB (primR (kidR t 0)) (primR (kidR (kidR t 1) 0)))
 else if kindR (kidR t 1)=10 then toldP 2 (foldR (kidR t 0)) (primR (kidR (kidR t 1) 0)) (gatB (foldR (kidR t 0))&&relBz (primR (kidR (kidR t 1) 0)))
 else noP
def mtTwo (t:RTree):Phr :=
 if primR (kidR t 0)=247/\kindR (kidR t 1)=9/\kindR (kidR t 2)=9/\sameV (kidR (kidR t 1) 1) (kidR (kidR t 2) 1)=true then toldP 4 43 8802 (decide (primR (kidR (kidR t 1) 0)=8802)&&decide (foldR (kidR (kidR t 2) 0)=43))
 else if primR (kidR t 0)=9075/\kindR (kidR t 1)=9/\sameV (kidR (kidR t 1) 1) (kidR t 2)=true then toldP 5 (primR (kidR t 0)) (foldR (kidR (kidR t 1) 0)) (decide (foldR (kidR (kidR t 1) 0)=8968)||decide (foldR (kidR (kidR t 1) 0)=8970))
 else noP
def mtIx (t:RTree):Phr :=
 if (kidsR t).length=2/\kindR (kidR t 1)=9/\sameV (kidR t 0) (kidR (kidR t 1) 1)=true then toldP 3 0 (primR (kidR (kidR t 1) 0)) (decide (primR (kidR (kidR t 1) 0)=9035)||decide (primR (kidR (kidR t 1) 0)=9042))
 else noP
def mtP (t:RTree):Phr:=if kindR t=9 then mtOne t else if kindR t=8 then mtIx t else if kindR t=10 then mtTwo t else noP
def PhR (w:World) (r:Phr) (e:Ending) (w':World):Prop:=e= .returned (.tuple #[.agg #[.int .i64 r.1.1,.int .i32 r.1.2.1,.int .i32 r.1.2.2],.bool r.2])/\Below w.heap.size w w'
theorem phr_size:(Tryz.prog.info? 63).map (·.size)=some 3:=by kernel_rfl
theorem ret_phr {fn:Func}{p u:Tmp} (h:fn.results=#[.cell p 63,.tmp u]) (tmps:Array Value) (w:World) (G:Nat){e:TypeId}{a0 a1 a2:Value}
  (hp:tmps.getD p undef= .pointer (some ⟨G,0,none⟩)) (hg:w.heap[G]?=some (.cells #[a0,a1,a2] e)) :
  (results fn tmps).run Tryz.prog w= .ok (.tuple #[.agg #[a0,a1,a2],tmps.getD u undef]) w:=by
 rw [results_cell_tmp h,hp]
 have:=run_loadVar_row (P:=Tryz.prog) w G e 63 _ (0,0) _ hg Tryz.underlying63 rfl phr_size
 simp [asAddr,Result.andThen,this]
theorem kidR_at {k:Int}{nums:List Nat}{text:List Int}{name:ByteArray}{c:Int}{kids:List RTree}{i:Nat} (hi:i < kids.length):kidR (.mk k nums text name c kids) i=kids[i]:=by
 unfold kidR
 show kids.getD i default=_
 simp [List.getD,hi]
theorem TN.form2 {w:World}{k:Int}{nums:List Nat}{text:List Int}{name:ByteArray}{c:Int}{kids:List RTree}{v0 v1 v2 v3 v4 v5 v6:Value} (h:TN w (.mk k nums text name c kids) [v0,v1,v2,v3,v4,v5,v6]) :
  ∃ at1 A1 n1 c1 A2 n2 c2 A m cc,v0= .int .i64 k/\v1= .int .i64 at1/\v2= .slice A1 n1 c1/\v3= .slice A2 n2 c2/\v4= .string name/\v5= .int .i32 c/\v6= .slice A m cc/\m=kids.length/\KidsAt w A kids:=by
 obtain ⟨at1,nv,tv,A,cc,m,hvs,hrn,hrt,hm,hkid⟩:=h.open_
 simp only [List.cons.injEq,and_true] at hvs
 obtain ⟨rfl,rfl,rfl,rfl,rfl,rfl,rfl⟩:=hvs
 obtain ⟨A1,c1,n1,rfl,_,_⟩:=hrn.opn
 obtain ⟨A2,c2,n2,rfl,_,_⟩:=hrt.opn
 exact ⟨at1,A1,n1,c1,A2,n2,c2,A,m,cc,rfl,rfl,rfl,rfl,rfl,rfl,rfl,hm,hkid⟩
theorem TN.vals {w:World}{t:RTree}{v0 v1 v2 v3 v4 v5 v6:Value} (h:TN w t [v0,v1,v2,v3,v4,v5,v6]) :
  ∃ (a:Int) (A1:Option Addr) (n1 c1:Nat) (A2:Option Addr) (n2 c2:Nat) (A:Option Addr) (m cc:Nat),v0= .int .i64 (kindR t)/\v1= .int .i64 a/\v2= .slice A1 n1 c1/\v3= .slice A2 n2 c2/\v4= .string (nameR t)/\v5= .int .i32 (charR t)/\v6= .slice A m cc/\m=(kidsR t).length /\
   ∀ i,i < (kidsR t).length->∃ b o u0 u1 u2 u3 u4 u5 u6,A=some ⟨b,o,none⟩/\TN w (kidR t i) [u0,u1,u2,u3,u4,u5,u6]/\KidC w b (o+i*7) u0 u1 u2 u3 u4 u5 u6:=by
 cases t with
 | mk k nums text name c kids =>
  obtain ⟨a,A1,n1,c1,A2,n2,c2,A,m,cc,h0,h1,h2,h3,h4,h5,h6,hm,hk⟩:=h.form2
  refine ⟨a,A1,n1,c1,A2,n2,c2,A,m,cc,h0,h1,h2,h3,h4,h5,h6,hm,fun i hi=>?_⟩
  obtain ⟨b,o,u0,u1,u2,u3,u4,u5,u6,e,ht,hc⟩:=hk.kid i hi
  exact ⟨b,o,u0,u1,u2,u3,u4,u5,u6,e,by rw [kidR_at (show i < kids.length from hi)];exact ht,hc⟩
theorem iprim_walk {w:World}{t:RTree}{v0 v1 v2 v3 v4 v5 v6:Value} (ht:TN w t [v0,v1,v2,v3,v4,v5,v6]) (W:World) :
  Calls Tryz.prog 61 #[.agg #[v0,v1,v2,v3,v4,v5,v6]] W fun e w'=>e= .returned (.int .i32 (primR t))/\Below W.heap.size W w':=by
 obtain ⟨a,A1,n1,c1,A2,n2,c2,A,m,cc,rfl,rfl,rfl,rfl,rfl,rfl,rfl,-,-⟩:=ht.vals
 have HB:=Lib.hid ((Below.refl _ W).alloc (Nat.le_refl _) (.cells #[.int .i64 (kindR t),.int .i64 a,.slice A1 n1 c1,.slice A2 n2 c2,.string (nameR t),.int .i32 (charR t),.slice A m cc] 31))
 clear ht
 by_cases h:kindR t=13
 ·have HR:Hid (primR t=charR t):=if_pos h
  have q:(kindR t != 13)=false:=by simpa using h
  rw [HR.out]
  clear h HR
  generalize kindR t=k at *
  generalize charR t=c at *
  generalize nameR t=s at *
  go_enter Tryz.func61,Tryz.ntmps61
  go_wp2
  go_ret
  exact ⟨rfl,HB.out⟩
 ·have HR:Hid (primR t=0):=if_neg h
  have q:(kindR t != 13)=true:=by simpa using h
  rw [HR.out]
  clear h HR
  generalize kindR t=k at *
  generalize charR t=c at *
  generalize nameR t=s at *
  go_enter Tryz.func61,Tryz.ntmps61
  go_wp2
  go_ret
  exact ⟨rfl,HB.out⟩
theorem ifolded_walk {w:World}{t:RTree}{v0 v1 v2 v3 v4 v5 v6:Value} (ht:TN w t [v0,v1,v2,v3,v4,v5,v6]) (hs:kindR t=16->0 < (kidsR t).length) (W:World) (hb:Below w.heap.size w W) :
  Calls Tryz.prog 107 #[.agg #[v0,v1,v2,v3,v4,v5,v6]] W fun e w'=>e= .returned (.int .i32 (foldR t))/\Below W.heap.size W w':=by
 obtain ⟨a,A1,n1,c1,A2,n2,c2,A,m,cc,rfl,rfl,rfl,rfl,rfl,rfl,rfl,hm,hkid⟩:=ht.vals
 have HB:=Lib.hid ((Below.refl _ W).alloc (Nat.le_refl _) (.cells #[.int .i64 (kindR t),.int .i64 a,.slice A1 n1 c1,.slice A2 n2 c2,.string (nameR t),.int .i32 (charR t),.slice A m cc] 31))
 have HBW:=Lib.hid hb
 clear ht hb
 by_cases h:kindR t=16
 ·by_cases hc:charR t=47
  ·have HR:Hid (foldR t=primR (kidR t 0)):=if_pos ⟨h,hc⟩
   obtain ⟨b,o,u0,u1,u2,u3,u4,u5,u6,rfl,htk,hkc⟩:=hkid 0 (hs h)
   have hm0:0 < m:=by rw [hm];exact hs h
   have HKC:=Lib.hid hkc
   have HPR:=Lib.hid (fun W=>iprim_walk htk W)
   rw [HR.out]
   rw [h,hc] at HB ⊢
   clear hkc htk hkid hs hm h hc HR
   generalize primR (kidR t 0)=r at *
   generalize nameR t=s at *
   have HK2:Hid (KidC w b o u0 u1 u2 u3 u4 u5 u6):=by unfold Hid;have:=HKC.out;simpa using this
   obtain ⟨k0,k1,k2,k3,k4,k5,k6⟩:=HK2.out _ (HBW.out.trans (HB.out.mono HBW.out.size))
   clear HKC HK2
   go_enter Tryz.func107,Tryz.ntmps107
   go_wp2_with fail
   refine (HPR.out _).mono ?_
   rintro e w1 ⟨rfl,hb⟩
   have HB1:=Lib.hid (bel_both HB.out hb)
   clear hb
   go_wp2
   go_ret
   exact ⟨rfl,HB1.out⟩
  ·have HR:Hid (foldR t=0):=if_neg (fun e=>hc e.2)
   have q:(charR t != 47)=true:=by simpa using hc
   rw [HR.out]
   rw [h] at HB ⊢
   clear h hc HR hs hkid hm
   generalize charR t=c at *
   generalize nameR t=s at *
   go_enter Tryz.func107,Tryz.ntmps107
   go_wp2
   go_ret
   exact ⟨rfl,HB.out⟩
 ·have HR:Hid (foldR t=0):=if_neg (fun e=>h e.1)
  have q:(kindR t != 16)=true:=by simpa using h
  rw [HR.out]
  clear h HR hs hkid hm
  generalize kindR t=k at *
  generalize charR t=c at *
  generalize nameR t=s at *
  go_enter Tryz.func107,Tryz.ntmps107
  go_wp2
  go_ret
  exact ⟨rfl,HB.out⟩
theorem isame_walk {w w2:World}{t t2:RTree}{v0 v1 v2 v3 v4 v5 v6 u0 u1 u2 u3 u4 u5 u6:Value} (ht:TN w t [v0,v1,v2,v3,v4,v5,v6]) (ht2:TN w2 t2 [u0,u1,u2,u3,u4,u5,u6]) (W:World) :
  Calls Tryz.prog 60 #[.agg #[v0,v1,v2,v3,v4,v5,v6],.agg #[u0,u1,u2,u3,u4,u5,u6]] W fun e w'=>e= .returned (.bool (sameV t t2))/\Below W.heap.size W w':=by
 obtain ⟨a,A1,n1,c1,A2,n2,c2,A,m,cc,rfl,rfl,rfl,rfl,rfl,rfl,rfl,-,-⟩:=ht.vals
 obtain ⟨a',A1',n1',c1',A2',n2',c2',A',m',cc',rfl,rfl,rfl,rfl,rfl,rfl,rfl,-,-⟩:=ht2.vals
 obtain ⟨R,hR⟩:∃ R,R=sameV t t2:=⟨_,rfl⟩
 have HR:Hid (R=((kindR t==3)&&(kindR t2==3)&&decide ((nameR t).toList=(nameR t2).toList))):=hR
 rw [<- hR]
 have HB:=Lib.hid (((Below.refl _ W).alloc (Nat.le_refl _) (.cells #[.int .i64 (kindR t),.int .i64 a,.slice A1 n1 c1,.slice A2 n2 c2,.string (nameR t),.int .i32 (charR t),.slice A m cc] 31)).alloc (by simp) (.cells #[.int .i64 (kindR t2),.int .i64 a',.slice A1' n1' c1',.slice A2' n2' c2',.string (nameR t2),.int .i32 (charR t2),.slice A' m' cc'] 31))
 clear ht ht2 hR
 generalize kindR t=k at *
 generalize charR t=c at *
 generalize nameR t=s at *
 generalize kindR t2=k' at *
 generalize charR t2=c' at *
 generalize nameR t2=s' at *
 obtain ⟨q1,h1⟩:∃ q:Bool,(k==3)=q:=⟨_,rfl⟩
 obtain ⟨q2,h2⟩:∃ q:Bool,(k'==3)=q:=⟨_,rfl⟩
 rw [h1,h2] at HR
 cases q1 <;> cases q2
 all_goals go_enter Tryz.func60,Tryz.ntmps60
 all_goals go_wp2
 all_goals go_ret
 all_goals exact ⟨by rw [HR.out];clear HR;show Ending.returned (Value.bool _)=_;refine congrArg (fun b=>Ending.returned (Value.bool b)) ?_;first | (simp [*];done) | (rw [Bool.eq_iff_iff];simp [*];done),HB.out⟩
theorem itold_walk (a b c:Int) (ok:Bool) (w:World):Calls Tryz.prog 62 #[.agg #[.int .i64 a,.int .i32 b,.int .i32 c],.bool ok] w (PhR w (toldP a b c ok)):=by
 have hz:=heap_alloc_new (w.alloc (.cells #[.int .i64 a,.int .i32 b,.int .i32 c] 63)) (.cells #[.int .i64 0,.int .i32 0,.int .i32 0] 63)
 rw [show (w.alloc (.cells #[.int .i64 a,.int .i32 b,.int .i32 c] 63)).heap.size=w.heap.size+1 by simp] at hz
 have HZ:=Lib.hid hz
 have HB:=Lib.hid (bel2 w (.cells #[.int .i64 a,.int .i32 b,.int .i32 c] 63) (.cells #[.int .i64 0,.int .i32 0,.int .i32 0] 63))
 clear hz
 cases ok with
 | false =>
  go_enter Tryz.func62,Tryz.ntmps62
  go_wp2
  refine bodyPost_ret (v := .tuple #[.agg #[.int .i64 0,.int .i32 0,.int .i32 0],.bool false]) ?_ rfl ⟨rfl,HB.out⟩
  exact ret_phr (fn:=Tryz.f62) (p:=4) (u:=5) rfl _ _ (w.heap.size+1) (by rfl) HZ.out
 | true =>
  have HN:=heap_alloc_new (w.alloc (.cells #[.int .i64 a,.int .i32 b,.int .i32 c] 63)) (.cells #[.int .i64 a,.int .i32 b,.int .i32 c] 63)
  rw [show (w.alloc (.cells #[.int .i64 a,.int .i32 b,.int .i32 c] 63)).heap.size=w.heap.size+1 by simp] at HN
  have HN:=Lib.hid HN
  have HB2:=Lib.hid (bel2 w (.cells #[.int .i64 a,.int .i32 b,.int .i32 c] 63) (.cells #[.int .i64 a,.int .i32 b,.int .i32 c] 63))
  go_enter Tryz.func62,Tryz.ntmps62
  go_wp2
  refine bodyPost_ret (v := .tuple #[.agg #[.int .i64 a,.int .i32 b,.int .i32 c],.bool true]) ?_ rfl ⟨rfl,HB2.out⟩
  exact ret_phr (fn:=Tryz.f62) (p:=4) (u:=5) rfl _ _ (w.heap.size+1) (by rfl) HN.out
structure MtS (W:World) (vs:List Value) (W':World):Prop where
 box:BoxT W W' vs
 res:W'.heap[W.heap.size+1]?=some (.cells #[.int .i64 0,.int .i32 0,.int .i32 0] 63)
theorem MtS.bel {W W':World}{vs:List Value} (g:MtS W vs W'):Below W.heap.size W W':=g.box.2.1
theorem MtS.step {W W' W2:World}{vs:List Value} (g:MtS W vs W') (hb:Below W'.heap.size W' W2):MtS W vs W2:=⟨g.box.step hb,by rw [hb.block _ (lt_blk g.res)];exact g.res⟩
theorem MtS.start (W:World) (vs:List Value) (T:TypeId):MtS W vs ((W.alloc (.cells vs.toArray T)).alloc (.cells #[.int .i64 0,.int .i32 0,.int .i32 0] 63)):=by
 have h2:=heap_alloc_new (W.alloc (.cells vs.toArray T)) (.cells #[.int .i64 0,.int .i32 0,.int .i32 0] 63)
 rw [show (W.alloc (.cells vs.toArray T)).heap.size=W.heap.size+1 by simp] at h2
 exact ⟨(boxedT W vs T).step (bel1 _ _),h2⟩
theorem phrase_has (f g:Int) (W:World):Calls Tryz.prog 106 #[.string chainsStr,.int .i32 f,.int .i32 g] W fun e w'=>e= .returned (.bool (chnB f g))/\Below W.heap.size W w':=by
 have h:=has_walk chainsStr f g W
 rw [chainsStr_runes,chnB_has] at h
 exact h
theorem chnB_zero (g:Int):chnB 0 g=false:=rfl
theorem gatB_zero:gatB 0=false:=by decide
theorem ione_walk {w:World}{t:RTree}{v0 v1 v2 v3 v4 v5 v6:Value} (ht:TN w t [v0,v1,v2,v3,v4,v5,v6]) (h2:2<=(kidsR t).length) (hx9:kindR (kidR t 1)=9\/kindR (kidR t 1)=10->0 < (kidsR (kidR t 1)).length) (hf:kindR (kidR t 0)=16->0 < (kidsR (kidR t 0)).length) (W:World) (hb:Below w.heap.size w W) :
  Calls Tryz.prog 59 #[.agg #[v0,v1,v2,v3,v4,v5,v6]] W (PhR W (mtOne t)):=by
 obtain ⟨a,A1,n1,c1,A2,n2,c2,A,m,cc,rfl,rfl,rfl,rfl,rfl,rfl,rfl,hm,hkid⟩:=ht.vals
 obtain ⟨b,o,u0,u1,u2,u3,u4,u5,u6,rfl,ht0,hc0⟩:=hkid 0 (by omega)
 obtain ⟨b',o',x0,x1,x2,x3,x4,x5,x6,e,htx,hcx⟩:=hkid 1 (by omega)
 cases e
 obtain ⟨xa,xA1,xn1,xc1,xA2,xn2,xc2,xA,xm,xcc,rfl,rfl,rfl,rfl,rfl,rfl,rfl,hxm,hxk⟩:=htx.vals
 have HC0:Hid (KidC w b o u0 u1 u2 u3 u4 u5 u6):=by unfold Hid;have:=hc0;simpa using this
 have HCX:Hid (KidC w b (o+7) (.int .i64 (kindR (kidR t 1))) (.int .i64 xa) (.slice xA1 xn1 xc1) (.slice xA2 xn2 xc2) (.string (nameR (kidR t 1))) (.int .i32 (charR (kidR t 1))) (.slice xA xm xcc)):=by unfold Hid;have:=hcx;simpa using this
 have HP0:=Lib.hid (fun W'=>iprim_walk ht0 W')
 have HF0:=Lib.hid (fun W' (hb':Below w.heap.size w W')=>ifolded_walk ht0 hf W' hb')
 have HXK:=Lib.hid hxk
 have HBW:=Lib.hid hb
 obtain ⟨r,hr⟩:∃ r,r=mtOne t:=⟨_,rfl⟩
 have HR:Hid (r=if kindR (kidR t 1)=9 then toldP 1 (primR (kidR t 0)) (primR (kidR (kidR t 1) 0)) (chnB (primR (kidR t 0)) (primR (kidR (kidR t 1) 0)))
  else if kindR (kidR t 1)=10 then toldP 2 (foldR (kidR t 0)) (primR (kidR (kidR t 1) 0)) (gatB (foldR (kidR t 0))&&relBz (primR (kidR (kidR t 1) 0))) else noP):=hr
 rw [<- hr]
 have hm1:(1:Int) < (m:Int):=by omega
 have hm0:(0:Int) < (m:Int):=by omega
 have hmn1:1 < m:=by omega
 have HX9:Hid (kindR (kidR t 1)=9\/kindR (kidR t 1)=10->0 < xm):=fun h=>by rw [hxm];exact hx9 h
 have HX9':=Lib.hid hx9
 clear hkid ht ht0 htx hc0 hcx hxk hb hr hf hx9 h2 hm hxm
 generalize primR (kidR t 0)=p0 at *
 generalize foldR (kidR t 0)=f0 at *
 generalize kidR t 1=tx at *
 generalize kindR t=k at *
 generalize charR t=c at *
 generalize nameR t=s at *
 obtain ⟨W0,hW0⟩:∃ W0,W0=(W.alloc (.cells #[.int .i64 k,.int .i64 a,.slice A1 n1 c1,.slice A2 n2 c2,.string s,.int .i32 c,.slice (some ⟨b,o,none⟩) m cc] 31)).alloc (.cells #[.int .i64 0,.int .i32 0,.int .i32 0] 63):=⟨_,rfl⟩
 have HW0:=Lib.hid hW0
 have HS0:Hid (MtS W [.int .i64 k,.int .i64 a,.slice A1 n1 c1,.slice A2 n2 c2,.string s,.int .i32 c,.slice (some ⟨b,o,none⟩) m cc] W0):=by unfold Hid;rw [hW0];exact MtS.start W _ _
 clear hW0
 have hbw0:Below w.heap.size w W0:=HBW.out.trans (HS0.out.bel.mono HBW.out.size)
 obtain ⟨n0,n1',n2',n3',n4',n5',n6'⟩:=HS0.out.box.c7
 obtain ⟨y0,y1,y2,y3,y4,y5,y6⟩:=HCX.out _ hbw0
 have HBW0:=Lib.hid hbw0
 clear hbw0
 obtain ⟨W2,hW2⟩:∃ W2,W2=W0.alloc (.cells #[.int .i64 (kindR tx),.int .i64 xa,.slice xA1 xn1 xc1,.slice xA2 xn2 xc2,.string (nameR tx),.int .i32 (charR tx),.slice xA xm xcc] 31):=⟨_,rfl⟩
 obtain ⟨X,hX⟩:∃ X,X=W0.heap.size:=⟨_,rfl⟩
 have HW2:=Lib.hid hW2
 have HXX:=Lib.hid hX
 have HXB:Hid (BoxT W0 W2 [.int .i64 (kindR tx),.int .i64 xa,.slice xA1 xn1 xc1,.slice xA2 xn2 xc2,.string (nameR tx),.int .i32 (charR tx),.slice xA xm xcc]):=by unfold Hid;rw [hW2];exact boxedT W0 _ _
 have HS2:Hid (MtS W [.int .i64 k,.int .i64 a,.slice A1 n1 c1,.slice A2 n2 c2,.string s,.int .i32 c,.slice (some ⟨b,o,none⟩) m cc] W2):=by unfold Hid;rw [hW2];exact HS0.out.step (bel1 _ _)
 have HBW2:Hid (Below w.heap.size w W2):=HBW0.out.trans (HXB.out.2.1.mono HBW0.out.size)
 clear hW2 hX
 go_enter Tryz.func59,Tryz.ntmps59
 go_upto_region 1 with fail
 rw [<- HW0.out]
 go_upto_region 2 with fail
 rw [<- HW2.out,<- HXX.out]
 clear n0 n1' n2' n3' n4' n5' n6' y0 y1 y2 y3 y4 y5 y6
 have hxb:=HXB.out.c7
 rw [<- HXX.out] at hxb
 obtain ⟨z0,z1,z2,z3,z4,z5,z6⟩:=hxb
 obtain ⟨n0,n1',n2',n3',n4',n5',n6'⟩:=HS2.out.box.c7
 obtain ⟨y0,y1,y2,y3,y4,y5,y6⟩:=HC0.out _ HBW2.out
 have hL1:=LatW.cell (w:=W2) (g:=W.heap.size) HS2.out.box.2.2
 have hL2:=LatW.cell (w:=W2) (g:=X) (by rw [HXX.out];exact HXB.out.2.2)
 have hL3:=LatW.cell (w:=W2) (g:=b) (cell_lt y0)
 by_cases h9:kindR tx=9
 ·obtain ⟨bx,ox,q0,q1,q2,q3,q4,q5,q6,rfl,htq,hcq⟩:=HXK.out 0 (HX9'.out (.inl h9))
  have HR2:Hid (r=toldP 1 p0 (primR (kidR tx 0)) (chnB p0 (primR (kidR tx 0)))):=by unfold Hid;rw [HR.out,if_pos h9]
  have hxm0:(0:Int) < (xm:Int):=by have:=HX9.out (.inl h9);omega
  have hxmn:0 < xm:=by omega
  have HPX:=Lib.hid (fun W'=>iprim_walk htq W')
  have HCQ:Hid (KidC w bx ox q0 q1 q2 q3 q4 q5 q6):=by unfold Hid;have:=hcq;simpa using this
  obtain ⟨s0,s1,s2,s3,s4,s5,s6⟩:=HCQ.out _ HBW2.out
  have hL4:=LatW.cell (w:=W2) (g:=bx) (cell_lt s0)
  rw [h9] at z0 ⊢
  clear HR htq hcq HXK HX9 HX9' HF0
  generalize primR (kidR tx 0)=px at *
  go_wp2_with fail
  refine region_calm (by kernel_rfl) (by kernel_rfl) ?_
  repeat (go_big_quiet_step (first | (go_at_call 61;refine calm_of (HP0.out _)) | (go_at_call 61;refine calm_of (HPX.out _))))
  refine wpQuiet_nil ?_
  intro _ hw'
  obtain ⟨nq,hw''⟩:=hw'
  subst hw''
  have HS3:=Lib.hid (HS2.out.step nq.h)
  clear hL1 hL2 hL3 hL4
  by_cases hp:p0=0
  ·subst hp
   have HR3:Hid (r=toldP 1 0 px false):=by unfold Hid;rw [HR2.out,chnB_zero]
   have HTO:=Lib.hid (fun W'=>itold_walk 1 0 px false W')
   obtain ⟨q,hq⟩:∃ q,q=toldP 1 0 px false:=⟨_,rfl⟩
   have HQ:Hid (r=q):=by unfold Hid;rw [HR3.out,hq]
   rw [<- hq] at HTO
   clear hq
   unfold PhR at HTO
   clear HR2 HR3
   go_wp2_with fail
   refine (HTO.out _).mono ?_
   rintro e w3 ⟨rfl,hb⟩
   have HS4:=Lib.hid (HS3.out.step hb)
   clear hb
   obtain ⟨⟨d0,d1,d2⟩,dz⟩:=block3 HS4.out.res
   go_wp2
   first
    | (refine bodyPost_ret (v := .tuple #[.agg #[.int .i64 q.1.1,.int .i32 q.1.2.1,.int .i32 q.1.2.2],.bool q.2]) ?_ rfl ⟨by rw [HQ.out],below_set3 HS4.out.bel (Nat.le_succ _) _ _ _⟩;exact ret_phr (fn:=Tryz.f59) (p:=2) (u:=3) rfl _ _ (W.heap.size+1) (by rfl) (set3_block HS4.out.res _ _ _))
    | (refine bodyPost_ret (v := .tuple #[.agg #[.int .i64 q.1.1,.int .i32 q.1.2.1,.int .i32 q.1.2.2],.bool q.2]) ?_ rfl ⟨by rw [HQ.out],HS4.out.bel⟩;exact ret_phr (fn:=Tryz.f59) (p:=2) (u:=3) rfl _ _ (W.heap.size+1) (by rfl) HS4.out.res)
  ·have hp1:(p0 != 0)=true:=by simpa using hp
   have HTO:=Lib.hid (fun W'=>itold_walk 1 p0 px (chnB p0 px) W')
   have HHA:=Lib.hid (phrase_has p0 px)
   obtain ⟨q,hq⟩:∃ q,q=toldP 1 p0 px (chnB p0 px):=⟨_,rfl⟩
   have HQ:Hid (r=q):=by unfold Hid;rw [HR2.out,hq]
   rw [<- hq] at HTO
   clear hq
   generalize chnB p0 px=cb at *
   unfold PhR at HTO
   clear HR2 hp
   go_wp2_with fail
   refine (HHA.out _).mono ?_
   rintro e w3 ⟨rfl,hb⟩
   have HS4:=Lib.hid (HS3.out.step hb)
   clear hb
   go_wp2_with fail
   refine (HTO.out _).mono ?_
   rintro e w4 ⟨rfl,hb⟩
   have HS5:=Lib.hid (HS4.out.step hb)
   clear hb
   obtain ⟨⟨d0,d1,d2⟩,dz⟩:=block3 HS5.out.res
   go_wp2
   first
    | (refine bodyPost_ret (v := .tuple #[.agg #[.int .i64 q.1.1,.int .i32 q.1.2.1,.int .i32 q.1.2.2],.bool q.2]) ?_ rfl ⟨by rw [HQ.out],below_set3 HS5.out.bel (Nat.le_succ _) _ _ _⟩;exact ret_phr (fn:=Tryz.f59) (p:=2) (u:=3) rfl _ _ (W.heap.size+1) (by rfl) (set3_block HS5.out.res _ _ _))
    | (refine bodyPost_ret (v := .tuple #[.agg #[.int .i64 q.1.1,.int .i32 q.1.2.1,.int .i32 q.1.2.2],.bool q.2]) ?_ rfl ⟨by rw [HQ.out],HS5.out.bel⟩;exact ret_phr (fn:=Tryz.f59) (p:=2) (u:=3) rfl _ _ (W.heap.size+1) (by rfl) HS5.out.res)
 ·have e9:(kindR tx==9)=false:=by simpa using h9
  by_cases h10:kindR tx=10
  ·obtain ⟨bx,ox,q0,q1,q2,q3,q4,q5,q6,rfl,htq,hcq⟩:=HXK.out 0 (HX9'.out (.inr h10))
   have HR2:Hid (r=toldP 2 f0 (primR (kidR tx 0)) (gatB f0&&relBz (primR (kidR tx 0)))):=by unfold Hid;rw [HR.out,if_neg h9,if_pos h10]
   have hxm0:(0:Int) < (xm:Int):=by have:=HX9.out (.inr h10);omega
   have hxmn:0 < xm:=by omega
   have HPX:=Lib.hid (fun W'=>iprim_walk htq W')
   have HCQ:Hid (KidC w bx ox q0 q1 q2 q3 q4 q5 q6):=by unfold Hid;have:=hcq;simpa using this
   obtain ⟨s0,s1,s2,s3,s4,s5,s6⟩:=HCQ.out _ HBW2.out
   have hL4:=LatW.cell (w:=W2) (g:=bx) (cell_lt s0)
   have HF0':=Lib.hid (fun (n:LatW W2)=>HF0.out n.W (HBW2.out.trans (n.h.mono HBW2.out.size)))
   rw [h10] at z0 e9 ⊢
   clear HR htq hcq HXK HX9 HX9' h9
   generalize primR (kidR tx 0)=px at *
   go_wp2_with fail
   refine region_calm (by kernel_rfl) (by kernel_rfl) ?_
   repeat (go_big_quiet_step (first | (go_at_call 107;refine calm_of (HF0'.out _)) | (go_at_call 61;refine calm_of (HPX.out _))))
   refine wpQuiet_nil ?_
   intro _ hw'
   obtain ⟨nq,hw''⟩:=hw'
   subst hw''
   have HS3:=Lib.hid (HS2.out.step nq.h)
   clear hL1 hL2 hL3 hL4
   have HTO:=Lib.hid (fun W'=>itold_walk 2 f0 px (gatB f0&&relBz px) W')
   obtain ⟨q,hq⟩:∃ q,q=toldP 2 f0 px (gatB f0&&relBz px):=⟨_,rfl⟩
   have HQ:Hid (r=q):=by unfold Hid;rw [HR2.out,hq]
   rw [<- hq] at HTO
   clear hq HR2
   by_cases hp:f0=0
   ·subst hp
    rw [gatB_zero,Bool.false_and] at HTO
    unfold PhR at HTO
    go_wp2_with fail
    refine (HTO.out _).mono ?_
    rintro e w3 ⟨rfl,hb⟩
    have HS4:=Lib.hid (HS3.out.step hb)
    clear hb
    obtain ⟨⟨d0,d1,d2⟩,dz⟩:=block3 HS4.out.res
    go_wp2
    first
     | (refine bodyPost_ret (v := .tuple #[.agg #[.int .i64 q.1.1,.int .i32 q.1.2.1,.int .i32 q.1.2.2],.bool q.2]) ?_ rfl ⟨by rw [HQ.out],below_set3 HS4.out.bel (Nat.le_succ _) _ _ _⟩;exact ret_phr (fn:=Tryz.f59) (p:=2) (u:=3) rfl _ _ (W.heap.size+1) (by rfl) (set3_block HS4.out.res _ _ _))
     | (refine bodyPost_ret (v := .tuple #[.agg #[.int .i64 q.1.1,.int .i32 q.1.2.1,.int .i32 q.1.2.2],.bool q.2]) ?_ rfl ⟨by rw [HQ.out],HS4.out.bel⟩;exact ret_phr (fn:=Tryz.f59) (p:=2) (u:=3) rfl _ _ (W.heap.size+1) (by rfl) HS4.out.res)
   ·have hp1:(f0 != 0)=true:=by simpa using hp
    have HGA:=Lib.hid (fun W'=>gathers_walk f0 W')
    have HRE:=Lib.hid (fun W'=>relation_walk px W')
    generalize gatB f0=gb at *
    generalize relBz px=rb at *
    unfold PhR at HTO
    clear hp
    go_wp2_with fail
    refine (HGA.out _).mono ?_
    rintro e w3 ⟨rfl,hb⟩
    have HS4:=Lib.hid (HS3.out.step hb)
    clear hb
    cases gb with
    | false =>
     go_wp2_with fail
     refine (HTO.out _).mono ?_
     rintro e w4 ⟨rfl,hb⟩
     have HS5:=Lib.hid (HS4.out.step hb)
     clear hb
     obtain ⟨⟨d0,d1,d2⟩,dz⟩:=block3 HS5.out.res
     go_wp2
     first
      | (refine bodyPost_ret (v := .tuple #[.agg #[.int .i64 q.1.1,.int .i32 q.1.2.1,.int .i32 q.1.2.2],.bool q.2]) ?_ rfl ⟨by rw [HQ.out],below_set3 HS5.out.bel (Nat.le_succ _) _ _ _⟩;exact ret_phr (fn:=Tryz.f59) (p:=2) (u:=3) rfl _ _ (W.heap.size+1) (by rfl) (set3_block HS5.out.res _ _ _))
      | (refine bodyPost_ret (v := .tuple #[.agg #[.int .i64 q.1.1,.int .i32 q.1.2.1,.int .i32 q.1.2.2],.bool q.2]) ?_ rfl ⟨by rw [HQ.out],HS5.out.bel⟩;exact ret_phr (fn:=Tryz.f59) (p:=2) (u:=3) rfl _ _ (W.heap.size+1) (by rfl) HS5.out.res)
    | true =>
     go_wp2_with fail
     refine (HRE.out _).mono ?_
     rintro e w4 ⟨rfl,hb⟩
     have HS5:=Lib.hid (HS4.out.step hb)
     clear hb
     rw [Bool.true_and] at HTO
     go_wp2_with fail
     refine (HTO.out _).mono ?_
     rintro e w5 ⟨rfl,hb⟩
     have HS6:=Lib.hid (HS5.out.step hb)
     clear hb
     obtain ⟨⟨d0,d1,d2⟩,dz⟩:=block3 HS6.out.res
     go_wp2
     first
      | (refine bodyPost_ret (v := .tuple #[.agg #[.int .i64 q.1.1,.int .i32 q.1.2.1,.int .i32 q.1.2.2],.bool q.2]) ?_ rfl ⟨by rw [HQ.out],below_set3 HS6.out.bel (Nat.le_succ _) _ _ _⟩;exact ret_phr (fn:=Tryz.f59) (p:=2) (u:=3) rfl _ _ (W.heap.size+1) (by rfl) (set3_block HS6.out.res _ _ _))
      | (refine bodyPost_ret (v := .tuple #[.agg #[.int .i64 q.1.1,.int .i32 q.1.2.1,.int .i32 q.1.2.2],.bool q.2]) ?_ rfl ⟨by rw [HQ.out],HS6.out.bel⟩;exact ret_phr (fn:=Tryz.f59) (p:=2) (u:=3) rfl _ _ (W.heap.size+1) (by rfl) HS6.out.res)
  ·have e10:(kindR tx==10)=false:=by simpa using h10
   have HR2:Hid (r=noP):=by unfold Hid;rw [HR.out,if_neg h9,if_neg h10]
   have HQ:=HR2
   obtain ⟨⟨d0,d1,d2⟩,dz⟩:=block3 HS2.out.res
   clear hL1 hL2 hL3 HR HR2 h9 h10
   generalize kindR tx=xk at *
   go_wp2
   first
    | (refine bodyPost_ret (v := .tuple #[.agg #[.int .i64 noP.1.1,.int .i32 noP.1.2.1,.int .i32 noP.1.2.2],.bool noP.2]) ?_ rfl ⟨by rw [HQ.out],below_set3 HS2.out.bel (Nat.le_succ _) _ _ _⟩;exact ret_phr (fn:=Tryz.f59) (p:=2) (u:=3) rfl _ _ (W.heap.size+1) (by rfl) (set3_block HS2.out.res _ _ _))
    | (refine bodyPost_ret (v := .tuple #[.agg #[.int .i64 noP.1.1,.int .i32 noP.1.2.1,.int .i32 noP.1.2.2],.bool noP.2]) ?_ rfl ⟨by rw [HQ.out],HS2.out.bel⟩;exact ret_phr (fn:=Tryz.f59) (p:=2) (u:=3) rfl _ _ (W.heap.size+1) (by rfl) HS2.out.res)
end Go.Proofs.YtbakjaliponbbaaGreatDoor
