/- The walks of a Vec's small questions: Kind, Class, Len, Num, Whole, store by store. A Vec in a variable's own block; a Vec's numbers as the callers ask for .. Conditions: as each theorem says. -/
import Derived.Test.YtiahegjdkejjpaaGreatDoorMg01
import Derived.Test.YtiahegjdkejjpaaGreatDoorMg00
import Derived.Shelf.SlGeneric
import Derived.Shelf.SlicesE.Clone
import Derived.OneCell
import Derived.Laws.ResultCell
import Derived.Laws.Rows
set_option maxRecDepth 100000
set_option maxHeartbeats 1000000
namespace Go.Proofs.YtiahegjdkejjpaaGreatDoor
open Go Go.RowKit Go.Proofs Fl
theorem kind_any (k:Int) (b:Value) (bn:Int) (s i f c x:Value) (w:World) :
  Calls Tryz.prog 66 #[vecV k b bn s i f c x] w fun e w'=>e= .returned (.int .i64 k)/\Below w.heap.size w w':=by
 go_enter Tryz.func66,Tryz.ntmps66
 go_wp2
 all_goals go_ret
 all_goals exact ⟨rfl,by first | exact Below.refl _ _ | exact bel1 _ _ | exact bel2 _ _ _ | exact bel3 _ _ _ _ | exact bel4 _ _ _ _ _⟩
theorem class_1 (b:Value) (bn:Int) (s i f c x:Value) (w:World) :
  Calls Tryz.prog 58 #[vecV 1 b bn s i f c x] w fun e w'=>e= .returned (.int .i64 0)/\Below w.heap.size w w':=by
 go_enter Tryz.func58,Tryz.ntmps58
 go_wp2
 all_goals go_ret
 all_goals exact ⟨rfl,by first | exact Below.refl _ _ | exact bel1 _ _ | exact bel2 _ _ _ | exact bel3 _ _ _ _ | exact bel4 _ _ _ _ _⟩
theorem class_2 (b:Value) (bn:Int) (s i f c x:Value) (w:World) :
  Calls Tryz.prog 58 #[vecV 2 b bn s i f c x] w fun e w'=>e= .returned (.int .i64 0)/\Below w.heap.size w w':=by
 go_enter Tryz.func58,Tryz.ntmps58
 go_wp2
 all_goals go_ret
 all_goals exact ⟨rfl,by first | exact Below.refl _ _ | exact bel1 _ _ | exact bel2 _ _ _ | exact bel3 _ _ _ _ | exact bel4 _ _ _ _ _⟩
theorem class_3 (b:Value) (bn:Int) (s i f c x:Value) (w:World) :
  Calls Tryz.prog 58 #[vecV 3 b bn s i f c x] w fun e w'=>e= .returned (.int .i64 0)/\Below w.heap.size w w':=by
 go_enter Tryz.func58,Tryz.ntmps58
 go_wp2
 all_goals go_ret
 all_goals exact ⟨rfl,by first | exact Below.refl _ _ | exact bel1 _ _ | exact bel2 _ _ _ | exact bel3 _ _ _ _ | exact bel4 _ _ _ _ _⟩
theorem class_4 (b:Value) (bn:Int) (s i f c x:Value) (w:World) :
  Calls Tryz.prog 58 #[vecV 4 b bn s i f c x] w fun e w'=>e= .returned (.int .i64 0)/\Below w.heap.size w w':=by
 go_enter Tryz.func58,Tryz.ntmps58
 go_wp2
 all_goals go_ret
 all_goals exact ⟨rfl,by first | exact Below.refl _ _ | exact bel1 _ _ | exact bel2 _ _ _ | exact bel3 _ _ _ _ | exact bel4 _ _ _ _ _⟩
theorem class_5 (b:Value) (bn:Int) (s i f c x:Value) (w:World) :
  Calls Tryz.prog 58 #[vecV 5 b bn s i f c x] w fun e w'=>e= .returned (.int .i64 1)/\Below w.heap.size w w':=by
 go_enter Tryz.func58,Tryz.ntmps58
 go_wp2
 all_goals go_ret
 all_goals exact ⟨rfl,by first | exact Below.refl _ _ | exact bel1 _ _ | exact bel2 _ _ _ | exact bel3 _ _ _ _ | exact bel4 _ _ _ _ _⟩
theorem class_6 (b:Value) (bn:Int) (s i f c x:Value) (w:World) :
  Calls Tryz.prog 58 #[vecV 6 b bn s i f c x] w fun e w'=>e= .returned (.int .i64 2)/\Below w.heap.size w w':=by
 go_enter Tryz.func58,Tryz.ntmps58
 go_wp2
 all_goals go_ret
 all_goals exact ⟨rfl,by first | exact Below.refl _ _ | exact bel1 _ _ | exact bel2 _ _ _ | exact bel3 _ _ _ _ | exact bel4 _ _ _ _ _⟩
theorem len_2 (b:Value) (bn:Int) (i f c x:Value) (p:Option Addr) (n q:Nat) (w:World) :
  Calls Tryz.prog 85 #[vecV 2 b bn (.slice p n q) i f c x] w fun e w'=>e= .returned (.int .i64 n)/\Below w.heap.size w w':=by
 go_enter Tryz.func85,Tryz.ntmps85
 go_wp2
 all_goals go_ret
 all_goals exact ⟨rfl,by first | exact Below.refl _ _ | exact bel1 _ _ | exact bel2 _ _ _ | exact bel3 _ _ _ _ | exact bel4 _ _ _ _ _⟩
theorem len_3 (b:Value) (bn:Int) (s f c x:Value) (p:Option Addr) (n q:Nat) (w:World) :
  Calls Tryz.prog 85 #[vecV 3 b bn s (.slice p n q) f c x] w fun e w'=>e= .returned (.int .i64 n)/\Below w.heap.size w w':=by
 go_enter Tryz.func85,Tryz.ntmps85
 go_wp2
 all_goals go_ret
 all_goals exact ⟨rfl,by first | exact Below.refl _ _ | exact bel1 _ _ | exact bel2 _ _ _ | exact bel3 _ _ _ _ | exact bel4 _ _ _ _ _⟩
theorem len_4 (b:Value) (bn:Int) (s i c x:Value) (p:Option Addr) (n q:Nat) (w:World) :
  Calls Tryz.prog 85 #[vecV 4 b bn s i (.slice p n q) c x] w fun e w'=>e= .returned (.int .i64 n)/\Below w.heap.size w w':=by
 go_enter Tryz.func85,Tryz.ntmps85
 go_wp2
 all_goals go_ret
 all_goals exact ⟨rfl,by first | exact Below.refl _ _ | exact bel1 _ _ | exact bel2 _ _ _ | exact bel3 _ _ _ _ | exact bel4 _ _ _ _ _⟩
theorem len_5 (b:Value) (bn:Int) (s i f x:Value) (p:Option Addr) (n q:Nat) (w:World) :
  Calls Tryz.prog 85 #[vecV 5 b bn s i f (.slice p n q) x] w fun e w'=>e= .returned (.int .i64 n)/\Below w.heap.size w w':=by
 go_enter Tryz.func85,Tryz.ntmps85
 go_wp2
 all_goals go_ret
 all_goals exact ⟨rfl,by first | exact Below.refl _ _ | exact bel1 _ _ | exact bel2 _ _ _ | exact bel3 _ _ _ _ | exact bel4 _ _ _ _ _⟩
theorem len_6 (b:Value) (bn:Int) (s i f c:Value) (p:Option Addr) (n q:Nat) (w:World) :
  Calls Tryz.prog 85 #[vecV 6 b bn s i f c (.slice p n q)] w fun e w'=>e= .returned (.int .i64 n)/\Below w.heap.size w w':=by
 go_enter Tryz.func85,Tryz.ntmps85
 go_wp2
 all_goals go_ret
 all_goals exact ⟨rfl,by first | exact Below.refl _ _ | exact bel1 _ _ | exact bel2 _ _ _ | exact bel3 _ _ _ _ | exact bel4 _ _ _ _ _⟩
theorem len_1 (b:Value) (bn:Int) (s i f c x:Value) (w:World) :
  Calls Tryz.prog 85 #[vecV 1 b bn s i f c x] w fun e w'=>e= .returned (.int .i64 bn)/\Below w.heap.size w w':=by
 go_enter Tryz.func85,Tryz.ntmps85
 go_wp2
 all_goals go_ret
 all_goals exact ⟨rfl,by first | exact Below.refl _ _ | exact bel1 _ _ | exact bel2 _ _ _ | exact bel3 _ _ _ _ | exact bel4 _ _ _ _ _⟩
theorem num_2 (b:Value) (bn:Int) (i f c x:Value) (B o n q j:Nat) (hj:j < n) (z:Int) (w:World) (hc:w.cell? ⟨B,o+j,none⟩=some (.int .i8 z)) :
  Calls Tryz.prog 136 #[vecV 2 b bn (.slice (some ⟨B,o,none⟩) n q) i f c x,.int .i64 (j:Int)] w fun e w'=>e= .returned (.float .f64 (floatOfInt .f64 z))/\Below w.heap.size w w':=by
 have h1:=fun a=>cell_box1 hc a
 have h2:=fun a b=>cell_box2 hc a b
 have h3:=fun a b d=>cell_box3 hc a b d
 have h4:=fun a b d g=>cell_box4 hc a b d g
 go_enter Tryz.func136,Tryz.ntmps136
 go_wp2
 all_goals go_ret
 all_goals exact ⟨rfl,by first | exact Below.refl _ _ | exact bel1 _ _ | exact bel2 _ _ _ | exact bel3 _ _ _ _ | exact bel4 _ _ _ _ _⟩
theorem vwhole_2 (b:Value) (bn:Int) (i f c x:Value) (B o n q j:Nat) (hj:j < n) (z:Int) (hz:-128<=z) (hz2:z<=127) (w:World) (hc:w.cell? ⟨B,o+j,none⟩=some (.int .i8 z)) :
  Calls Tryz.prog 160 #[vecV 2 b bn (.slice (some ⟨B,o,none⟩) n q) i f c x,.int .i64 (j:Int)] w fun e w'=>e= .returned (.tuple #[.int .i64 z,.bool true])/\Below w.heap.size w w':=by
 have h1:=fun a=>cell_box1 hc a
 have h2:=fun a b=>cell_box2 hc a b
 have h3:=fun a b d=>cell_box3 hc a b d
 have h4:=fun a b d g=>cell_box4 hc a b d g
 go_enter Tryz.func160,Tryz.ntmps160
 go_wp2
 all_goals go_ret2
 all_goals exact ⟨rfl,by first | exact Below.refl _ _ | exact bel1 _ _ | exact bel2 _ _ _ | exact bel3 _ _ _ _ | exact bel4 _ _ _ _ _⟩
theorem num_3 (b:Value) (bn:Int) (s f c x:Value) (B o n q j:Nat) (hj:j < n) (z:Int) (w:World) (hc:w.cell? ⟨B,o+j,none⟩=some (.int .i64 z)) :
  Calls Tryz.prog 136 #[vecV 3 b bn s (.slice (some ⟨B,o,none⟩) n q) f c x,.int .i64 (j:Int)] w fun e w'=>e= .returned (.float .f64 (floatOfInt .f64 z))/\Below w.heap.size w w':=by
 have h1:=fun a=>cell_box1 hc a
 have h2:=fun a b=>cell_box2 hc a b
 have h3:=fun a b d=>cell_box3 hc a b d
 have h4:=fun a b d g=>cell_box4 hc a b d g
 go_enter Tryz.func136,Tryz.ntmps136
 go_wp2
 all_goals go_ret
 all_goals exact ⟨rfl,by first | exact Below.refl _ _ | exact bel1 _ _ | exact bel2 _ _ _ | exact bel3 _ _ _ _ | exact bel4 _ _ _ _ _⟩
theorem vwhole_3 (b:Value) (bn:Int) (s f c x:Value) (B o n q j:Nat) (hj:j < n) (z:Int) (w:World) (hc:w.cell? ⟨B,o+j,none⟩=some (.int .i64 z)) :
  Calls Tryz.prog 160 #[vecV 3 b bn s (.slice (some ⟨B,o,none⟩) n q) f c x,.int .i64 (j:Int)] w fun e w'=>e= .returned (.tuple #[.int .i64 z,.bool true])/\Below w.heap.size w w':=by
 have h1:=fun a=>cell_box1 hc a
 have h2:=fun a b=>cell_box2 hc a b
 have h3:=fun a b d=>cell_box3 hc a b d
 have h4:=fun a b d g=>cell_box4 hc a b d g
 go_enter Tryz.func160,Tryz.ntmps160
 go_wp2
 all_goals go_ret2
 all_goals exact ⟨rfl,by first | exact Below.refl _ _ | exact bel1 _ _ | exact bel2 _ _ _ | exact bel3 _ _ _ _ | exact bel4 _ _ _ _ _⟩
theorem num_4 (b:Value) (bn:Int) (s i c x:Value) (B o n q j:Nat) (hj:j < n) (y:Nat) (w:World) (hc:w.cell? ⟨B,o+j,none⟩=some (.float .f64 y)) :
  Calls Tryz.prog 136 #[vecV 4 b bn s i (.slice (some ⟨B,o,none⟩) n q) c x,.int .i64 (j:Int)] w fun e w'=>e= .returned (.float .f64 y)/\Below w.heap.size w w':=by
 have h1:=fun a=>cell_box1 hc a
 have h2:=fun a b=>cell_box2 hc a b
 have h3:=fun a b d=>cell_box3 hc a b d
 have h4:=fun a b d g=>cell_box4 hc a b d g
 go_enter Tryz.func136,Tryz.ntmps136
 go_wp2
 all_goals go_ret
 all_goals exact ⟨rfl,by first | exact Below.refl _ _ | exact bel1 _ _ | exact bel2 _ _ _ | exact bel3 _ _ _ _ | exact bel4 _ _ _ _ _⟩
theorem vwhole_4 (b:Value) (bn:Int) (s i c x:Value) (B o n q j:Nat) (hj:j < n) (w:World) :
  Calls Tryz.prog 160 #[vecV 4 b bn s i (.slice (some ⟨B,o,none⟩) n q) c x,.int .i64 (j:Int)] w fun e w'=>e= .returned (.tuple #[.int .i64 0,.bool false])/\Below w.heap.size w w':=by
 go_enter Tryz.func160,Tryz.ntmps160
 go_wp2
 all_goals go_ret2
 all_goals exact ⟨rfl,by first | exact Below.refl _ _ | exact bel1 _ _ | exact bel2 _ _ _ | exact bel3 _ _ _ _ | exact bel4 _ _ _ _ _⟩
def Boxed (w:World) (G:Nat) (k:Int) (b:Value) (bn:Int) (s i f c x:Value):Prop :=
 w.cell? ⟨G,0,none⟩=some (.int .i64 k)/\w.cell? ⟨G,1,none⟩=some b/\w.cell? ⟨G,2,none⟩=some (.int .i64 bn)/\w.cell? ⟨G,3,none⟩=some s /\
  w.cell? ⟨G,4,none⟩=some i/\w.cell? ⟨G,5,none⟩=some f/\w.cell? ⟨G,6,none⟩=some c/\w.cell? ⟨G,7,none⟩=some x
theorem boxed_new (w:World) (e:TypeId) (k:Int) (b:Value) (bn:Int) (s i f c x:Value):Boxed (w.alloc (.cells #[.int .i64 k,b,.int .i64 bn,s,i,f,c,x] e)) w.heap.size k b bn s i f c x:=by
 have h:∀ j u,#[.int .i64 k,b,.int .i64 bn,s,i,f,c,x][j]?=some u->(w.alloc (.cells #[.int .i64 k,b,.int .i64 bn,s,i,f,c,x] e)).cell? ⟨w.heap.size,j,none⟩=some u:=by
  intro j u hu
  rw [cell_of_row _ w.heap.size j _ e (0,0) (heap_alloc_new w _)]
  exact hu
 exact ⟨h 0 _ rfl,h 1 _ rfl,h 2 _ rfl,h 3 _ rfl,h 4 _ rfl,h 5 _ rfl,h 6 _ rfl,h 7 _ rfl⟩
theorem Boxed.of {w w':World}{G:Nat}{k:Int}{b:Value}{bn:Int}{s i f c x:Value} (h:Boxed w G k b bn s i f c x) (e:∀ j,w'.cell? ⟨G,j,none⟩=w.cell? ⟨G,j,none⟩):Boxed w' G k b bn s i f c x:=by
 unfold Boxed
 rw [e,e,e,e,e,e,e,e]
 exact h
theorem Boxed.lt {w:World}{G:Nat}{k:Int}{b:Value}{bn:Int}{s i f c x:Value} (h:Boxed w G k b bn s i f c x):G < w.heap.size:=cell_lt h.1
theorem Boxed.below {w w':World}{G:Nat}{k:Int}{b:Value}{bn:Int}{s i f c x:Value} (h:Boxed w G k b bn s i f c x) (hb:Below w.heap.size w w'):Boxed w' G k b bn s i f c x:=h.of fun _=>hb.cell h.lt
theorem Boxed.set {w:World}{G:Nat}{k:Int}{b:Value}{bn:Int}{s i f c x:Value} (h:Boxed w G k b bn s i f c x){p:Addr} (hp:p.block≠G) (u:Value):Boxed (w.setCell p u) G k b bn s i f c x :=
 h.of fun _=>World.cell?_of_block (w:=w) (Below.heap_setCell w p u G (fun e=>hp e.symm))
structure NumsOf (w:World) (v:Value) (n:Nat) (F:Nat->Nat):Prop where
 cls:∀ w',Below w.heap.size w w'->Calls Tryz.prog 58 #[v] w' fun e w2=>e= .returned (.int .i64 0)/\Below w'.heap.size w' w2
 len:∀ w',Below w.heap.size w w'->Calls Tryz.prog 85 #[v] w' fun e w2=>e= .returned (.int .i64 n)/\Below w'.heap.size w' w2
 num:∀ w',Below w.heap.size w w'->∀ j,j < n->Calls Tryz.prog 136 #[v,.int .i64 (j:Nat)] w' fun e w2=>e= .returned (.float .f64 (F j))/\Below w'.heap.size w' w2
theorem info_f64:(Tryz.prog.info? 55).map (fun i=>(i.zero,i.size,i.bytes))=some (some (.float .f64 0),1,8):=by kernel_rfl
theorem store_float {w:World}{a:Addr}{y:Value} (hc:w.cell? a=some y) (hf:w.frozen? a=false) (k:FloatKind) (x:Nat) (m:Mode):(store a (.float k x) m).run Tryz.prog w= .ok () (w.setCell a (.float k x)):=by
 rw [run_store Tryz.prog w a _ m rfl,hc]
 simp [hf]
theorem nums_walk (k:Int) (b:Value) (bn:Int) (s i f c x:Value) (n:Nat) (F:Nat->Nat) (w:World) (h:NumsOf w (vecV k b bn s i f c x) n F) (hn:n<=1000000) :
  Calls Tryz.prog 124 #[vecV k b bn s i f c x] w fun e w'=>∃ v,e= .returned v/\Own1 w' w.heap.size 55 v ((List.range n).map fun j => .float .f64 (F j))/\Below w.heap.size w w':=by
 have HN:=Lib.hid h
 have hmk:=run_make_row' (P:=Tryz.prog) 33 55 (.float .f64 0) 8 Tryz.underlying33 info_f64 rfl .i64 .i64 n (by omega) (by omega)
 clear h
 go_enter Tryz.func124,Tryz.ntmps124
 go_wp2_with fail
 refine (HN.out.cls _ (bel1 _ _)).mono ?_
 rintro e w1 ⟨rfl,hb1⟩
 have hB1:=(bel1 w _).trans (hb1.mono (bel1 w _).size)
 have hx1:=(boxed_new w 37 k b bn s i f c x).below hb1
 have HB1:=Lib.hid hB1
 have HX1:=Lib.hid hx1
 obtain ⟨h0,h1,h2,h3,h4,h5,h6,h7⟩:=hx1
 clear hb1 hB1
 go_wp2_with fail
 refine (HN.out.len _ HB1.out).mono ?_
 rintro e w2 ⟨rfl,hb2⟩
 have HB2:=Lib.hid (HB1.out.trans (hb2.mono HB1.out.size))
 have HX2:=Lib.hid (HX1.out.below hb2)
 clear hb2 h0 h1 h2 h3 h4 h5 h6 h7 HX1 HB1
 obtain ⟨B,hB⟩:∃ B,B=w.heap.size:=⟨_,rfl⟩
 have HBE:=Lib.hid hB
 have HF0:=Lib.hid (Fill.made w2 B (by rw [hB];exact HB2.out.size) 55 (fun j => .float .f64 (F j)) (.float .f64 0) n (by unfold maxLen;omega))
 have HBM:=Lib.hid (HB2.out.alloc HB2.out.size (.cells (madeCells #[.float .f64 0] n) 55))
 have HXM:=Lib.hid (HX2.out.below (bel1 w2 (.cells (madeCells #[.float .f64 0] n) 55)))
 have HGN:Hid (w2.heap.size≠w.heap.size):=by have:=HX2.out.lt;show _≠_;omega
 go_wp2_with fail
 go_loopw [13] (fun j wr=>∃ m:Nat,m<=n/\j= .int .i64 m/\Fill wr B w2.heap.size 55 (fun j => .float .f64 (F j)) (.float .f64 0) n m/\Below w.heap.size w wr/\Boxed wr w.heap.size k b bn s i f c x) (fun j _=>n - (intOf j).toNat)
 case atStart=>exact ⟨0,Nat.zero_le _,rfl,HF0.out,HBM.out,HXM.out⟩
 case round =>
  obtain ⟨m,hm,rfl,hf,hbl,hx⟩:=hrel
  have HF:=Lib.hid hf
  have HBL:=Lib.hid hbl
  have HX:=Lib.hid hx
  by_cases hlt:m < n
  ·obtain ⟨h0,h1,h2,h3,h4,h5,h6,h7⟩:=hx
   clear hf hbl
   go_wp2_with fail
   refine (HN.out.num _ HBL.out m hlt).mono ?_
   rintro e w3 ⟨rfl,hb3⟩
   have HF3:=Lib.hid (HF.out.below hb3)
   have HP3:=Lib.hid (HF3.out.put hlt)
   have HB3:=Lib.hid (HF3.out.bel (by rw [HBE.out];exact HBL.out.trans (hb3.mono HBL.out.size)) m (.float .f64 (F m)))
   have HX3:=Lib.hid ((HX.out.below hb3).set (p:=⟨w2.heap.size,m,none⟩) HGN.out (.float .f64 (F m)))
   have hc3:=HF3.out.cell hlt
   have hz3:=HF3.out.frozen m
   have hst:=fun md=>store_float hc3 hz3 .f64 (F m) md
   clear hb3 h0 h1 h2 h3 h4 h5 h6 h7
   go_wp2
   go_roundw
   case rel=>exact ⟨m+1,by omega,by go_num,HP3.out,by rw [<- HBE.out];exact HB3.out,HX3.out⟩
   case measure=>simp [intOf];omega
  ·obtain rfl:m=n:=by omega
   clear hf hbl hx
   go_wp2
   go_ret
   exact ⟨_,rfl,by rw [<- HBE.out];exact HF.out.own,HBL.out⟩
end Go.Proofs.YtiahegjdkejjpaaGreatDoor
namespace Go.Proofs.YtiahegjdkejjpaaGreatDoor
open Go Go.RowKit Go.Proofs Go.Shelf Go.Lib
section
variable {P:Program} {ρ:Ren}
theorem clone_zero (L:SlLaysE0.n41 P ρ) (i0:TypeInfo) (z:Value) (bytes:Nat) (hi:P.info? (ρ.t 23)=some i0) (hz0:i0.zero=some z) (hz1:i0.size=1) (hz2:i0.bytes=bytes) (hzs:z.cells.size=1)
  (z23:∀ w,(Go.sizeOf (ρ.t 23)).run P w= .ok 1 w) (x:Addr) (c:Nat) (w:World) :
  Calls P (ρ.f 41) #[.slice (some x) 0 c] w fun e w'=>∃ v',e= .returned v'/\w'.ownsRow w.heap.size (ρ.t 23) 1 v' 0 []/\Below w.heap.size w w':=by
 have mixed:=L.mixed;have t4:=L.t4;have a4:=L.a4;have z4:=L.z4;have v4:=L.v4;have t22:=L.t22;have a22:=L.a22;have z22:=L.z22;have v22:=L.v22
 have q22:∀ (w:World) (a:Option Addr) (n c n' c':Nat),(binOp .eql (ρ.t 22) (.slice a n c) (.slice none n' c')).run P w= .ok (.bool a.isNone) w:=fun w a n c n' c'=>Lib.run_eql_slice_nil w _ _ a n c n' c' L.t22
 have u22:∀ w,Sem.run P (underlying (ρ.t 22)) w= .ok (TypeDesc.slice (ρ.t 23)) w:=run_underlying t22
 obtain ⟨_,_,FG⟩:=L.f41
 obtain ⟨n,hn⟩:∃ n:Nat,n=0:=⟨0,rfl⟩
 rw [<- hn]
 have HN:=Lib.hid hn
 clear hn
 go_enter FG,SlBodyN.n41_ntmps ρ
 go_wp2_with (at_builtin;refine wpList_append_own _ rfl _ _ (ρ.t 22) rfl w.heap.size (ρ.t 23) i0 z 1 bytes t22 hi hz0 hz1 hz2 hzs (by decide) _ _ _ rfl (World.ownsRow_made w #[] 0 (Nat.le_refl _) (Nat.zero_le _) (by simp)) x n c [] rfl ?qc1 ?qc2 ?qc3 ?qc4 ?qc5 ?qc6 ?_)
 case qc1=>rw [HN.out];rfl
 case qc2 =>
  intro j u hj
  simp at hj
 case qc3=>intro u hu;cases hu
 case qc4=>rw [Nat.zero_add,HN.out];exact Nat.zero_le _
 case qc5=>rw [Nat.zero_add,HN.out,Nat.zero_mul];exact Nat.zero_le _
 case qc6=>simp
 intro v' w1 hown hgrow hnil
 go_wp2
 go_ret
 refine ⟨v',rfl,hown,?_⟩
 exact ((Below.refl _ w).alloc (Nat.le_refl _) _).grown hgrow (by simp) (by intro k hk;simp [Value.ownBlock] at hk;omega)
theorem clone_reads (L:SlLaysE0.n41 P ρ) (z:Value) (bytes:Nat) (hinfo:(P.info? (ρ.t 23)).map (fun i=>(i.zero,i.size,i.bytes))=some (some z,1,bytes)) (hzs:z.cells.size=1)
  (z23:∀ w,(Go.sizeOf (ρ.t 23)).run P w= .ok 1 w) {w:World} {v:Value} {xs:List Value} (h:Reads1 w v xs) (hl:xs.length*bytes<=140737488355328) (hl2:xs.length<=140737488355328) (h1:∀ u∈xs,u.oneCell'=true) :
  Calls P (ρ.f 41) #[v] w fun e w'=>∃ v',e= .returned v'/\w'.ownsRow w.heap.size (ρ.t 23) 1 v' xs.length xs/\Below w.heap.size w w':=by
 obtain ⟨i0,hi,hz0,hz1,hz2⟩:=info_parts hinfo
 rcases h with ⟨x,c,rfl,rfl⟩ | ⟨b,o,n,c,rfl,hn,hc⟩
 ·cases x with
  | none =>
   refine (AnyE.slices_Clone_nil L 0 c w).mono ?_
   rintro e w' ⟨rfl,rfl⟩
   exact ⟨_,rfl,World.ownsRow_nil _ _ _ _,Below.refl _ _⟩
  | some x=>exact clone_zero L i0 z bytes hi hz0 hz1 hz2 hzs z23 x c w
 ·refine (AnyE.slices_Clone L i0 z 1 bytes hi hz0 hz1 hz2 hzs (by decide) z23 b o n c xs w (by omega) (by unfold maxLen;omega) (by rw [hn];exact hl) ?_ h1).mono ?_
  ·intro j u hj
   obtain ⟨hlt,rfl⟩:=List.getElem?_eq_some_iff.1 hj
   exact hc j hlt
  ·rintro e w' ⟨v',rfl,ho,_,hb⟩
   rw [hn] at ho
   exact ⟨v',rfl,ho,hb⟩
end
theorem info_cl64:(Tryz.prog.info? 2).map (fun i=>(i.zero,i.size,i.bytes))=some (some (.int .i64 0),1,8):=by kernel_rfl
def cl64_ren:Go.Shelf.Ren:=⟨fun | 41=>193 | n=>n,fun | 22=>32 | 23=>2 | 4=>4 | n=>n,fun n=>n⟩
theorem cl64_lays:SlLaysE0.n41 Tryz.prog cl64_ren where
 mixed:=by kernel_rfl
 f41 := ⟨"slices.Clone[[]int64,int64]", by decide, Tryz.func193.trans (congrArg some (by kernel_rfl))⟩
 t4:=Tryz.underlying4
 a4:=Tryz.isAgg4
 z4:=Tryz.sizeOf4
 v4:=Tryz.zeroValue4
 t22:=Tryz.underlying32
 a22:=Tryz.isAgg32
 z22:=Tryz.sizeOf32
 v22:=Tryz.zeroValue32
theorem cl64_any {w:World}{v:Value}{xs:List Value} (h:Reads1 w v xs) (hl:xs.length*8<=140737488355328) (h1:∀ u∈xs,u.oneCell'=true) :
  Calls Tryz.prog 193 #[v] w fun e w'=>∃ v',e= .returned v'/\Own1 w' w.heap.size 2 v' xs/\Below w.heap.size w w' :=
 clone_reads cl64_lays (.int .i64 0) 8 info_cl64 rfl Tryz.sizeOf2 h (by omega) (by omega) h1
theorem info_cl8:(Tryz.prog.info? 219).map (fun i=>(i.zero,i.size,i.bytes))=some (some (.int .i8 0),1,1):=by kernel_rfl
def cl8_ren:Go.Shelf.Ren:=⟨fun | 41=>249 | n=>n,fun | 22=>31 | 23=>219 | 4=>4 | n=>n,fun n=>n⟩
theorem cl8_lays:SlLaysE0.n41 Tryz.prog cl8_ren where
 mixed:=by kernel_rfl
 f41 := ⟨"slices.Clone[[]int8,int8]", by decide, Tryz.func249.trans (congrArg some (by kernel_rfl))⟩
 t4:=Tryz.underlying4
 a4:=Tryz.isAgg4
 z4:=Tryz.sizeOf4
 v4:=Tryz.zeroValue4
 t22:=Tryz.underlying31
 a22:=Tryz.isAgg31
 z22:=Tryz.sizeOf31
 v22:=Tryz.zeroValue31
theorem cl8_any {w:World}{v:Value}{xs:List Value} (h:Reads1 w v xs) (hl:xs.length*8<=140737488355328) (h1:∀ u∈xs,u.oneCell'=true) :
  Calls Tryz.prog 249 #[v] w fun e w'=>∃ v',e= .returned v'/\Own1 w' w.heap.size 219 v' xs/\Below w.heap.size w w' :=
 clone_reads cl8_lays (.int .i8 0) 1 info_cl8 rfl Tryz.sizeOf219 h (by omega) (by omega) h1
theorem info_clR:(Tryz.prog.info? 21).map (fun i=>(i.zero,i.size,i.bytes))=some (some (.int .i32 0),1,4):=by kernel_rfl
def clR_ren:Go.Shelf.Ren:=⟨fun | 41=>230 | n=>n,fun | 22=>34 | 23=>21 | 4=>4 | n=>n,fun n=>n⟩
theorem clR_lays:SlLaysE0.n41 Tryz.prog clR_ren where
 mixed:=by kernel_rfl
 f41 := ⟨"slices.Clone[[]rune,rune]", by decide, Tryz.func230.trans (congrArg some (by kernel_rfl))⟩
 t4:=Tryz.underlying4
 a4:=Tryz.isAgg4
 z4:=Tryz.sizeOf4
 v4:=Tryz.zeroValue4
 t22:=Tryz.underlying34
 a22:=Tryz.isAgg34
 z22:=Tryz.sizeOf34
 v22:=Tryz.zeroValue34
theorem clR_any {w:World}{v:Value}{xs:List Value} (h:Reads1 w v xs) (hl:xs.length*8<=140737488355328) (h1:∀ u∈xs,u.oneCell'=true) :
  Calls Tryz.prog 230 #[v] w fun e w'=>∃ v',e= .returned v'/\Own1 w' w.heap.size 21 v' xs/\Below w.heap.size w w' :=
 clone_reads clR_lays (.int .i32 0) 4 info_clR rfl Tryz.sizeOf21 h (by omega) (by omega) h1
def clA_ren:Go.Shelf.Ren:=⟨fun | 41=>127 | n=>n,fun | 22=>35 | 23=>39 | 4=>4 | n=>n,fun n=>n⟩
theorem clA_lays:SlLaysE0.n41 Tryz.prog clA_ren where
 mixed:=by kernel_rfl
 f41 := ⟨"slices.Clone[[]rebus/vec.Array,rebus/vec.Array]", by decide, Tryz.func127.trans (congrArg some (by kernel_rfl))⟩
 t4:=Tryz.underlying4
 a4:=Tryz.isAgg4
 z4:=Tryz.sizeOf4
 v4:=Tryz.zeroValue4
 t22:=Tryz.underlying35
 a22:=Tryz.isAgg35
 z22:=Tryz.sizeOf35
 v22:=Tryz.zeroValue35
end Go.Proofs.YtiahegjdkejjpaaGreatDoor
namespace Go.Proofs.YtiahegjdkejjpaaGreatDoor
open Go Go.RowKit Go.Proofs Fl
abbrev set8 (w:World) (G:Nat) (a0 a1 a2 a3 a4 a5 a6 a7:Value):World :=
 (((((((w.setCell ⟨G,0,none⟩ a0).setCell ⟨G,1,none⟩ a1).setCell ⟨G,2,none⟩ a2).setCell ⟨G,3,none⟩ a3).setCell ⟨G,4,none⟩ a4).setCell ⟨G,5,none⟩ a5).setCell ⟨G,6,none⟩ a6).setCell ⟨G,7,none⟩ a7
theorem below_set8 {B:Nat}{w0 w:World} (h:Below B w0 w){G:Nat} (hG:B<=G) (a0 a1 a2 a3 a4 a5 a6 a7:Value):Below B w0 (set8 w G a0 a1 a2 a3 a4 a5 a6 a7) :=
 (((((((h.setCell hG _).setCell hG _).setCell hG _).setCell hG _).setCell hG _).setCell hG _).setCell hG _).setCell hG _
theorem own_set8 {w:World}{B:Nat}{e:TypeId}{v:Value}{xs:List Value} (h:Own1 w B e v xs){G:Nat} (hG:v.ownBlock≠some G) (a0 a1 a2 a3 a4 a5 a6 a7:Value):Own1 (set8 w G a0 a1 a2 a3 a4 a5 a6 a7) B e v xs:=by
 unfold Own1 at *
 exact ownsRow_setCell_other (ownsRow_setCell_other (ownsRow_setCell_other (ownsRow_setCell_other (ownsRow_setCell_other (ownsRow_setCell_other (ownsRow_setCell_other (ownsRow_setCell_other h hG _) hG _) hG _) hG _) hG _) hG _) hG _) hG _
theorem Own1.lower {w:World}{B B':Nat}{e:TypeId}{v:Value}{xs:List Value} (h:Own1 w B e v xs) (hB:B'<=B):Own1 w B' e v xs:=by
 refine ⟨h.1,?_⟩
 rcases h.2 with h2 | ⟨g,cap,cur,hv,hbg,r⟩
 ·exact .inl h2
 ·exact .inr ⟨g,cap,cur,hv,by omega,r⟩
theorem frozen_new (w:World) (cs:Array Value) (e:TypeId) (j:Nat):(w.alloc (.cells cs e)).frozen? ⟨w.heap.size,j,none⟩=false:=frozen_of_row _ _ j cs e (heap_alloc_new w _)
theorem block_up {w w1:World}{o:Obj} (hb:Below (w.alloc o).heap.size (w.alloc o) w1):w1.heap[w.heap.size]?=some o:=by
 rw [hb.block _ (by simp)];exact heap_alloc_new w o
theorem set8_block {w:World}{G:Nat}{e:TypeId}{z0 z1 z2 z3 z4 z5 z6 z7:Value} (h:w.heap[G]?=some (.cells #[z0,z1,z2,z3,z4,z5,z6,z7] e)) (a0 a1 a2 a3 a4 a5 a6 a7:Value) :
  (set8 w G a0 a1 a2 a3 a4 a5 a6 a7).heap[G]?=some (.cells #[a0,a1,a2,a3,a4,a5,a6,a7] e):=by
 have h0:=heap_setCell_same _ G 0 _ e a0 h
 rw [show (#[z0,z1,z2,z3,z4,z5,z6,z7]:Array Value).setIfInBounds 0 a0=#[a0,z1,z2,z3,z4,z5,z6,z7] by simp] at h0
 have h1:=heap_setCell_same _ G 1 _ e a1 h0
 rw [show (#[a0,z1,z2,z3,z4,z5,z6,z7]:Array Value).setIfInBounds 1 a1=#[a0,a1,z2,z3,z4,z5,z6,z7] by simp] at h1
 have h2:=heap_setCell_same _ G 2 _ e a2 h1
 rw [show (#[a0,a1,z2,z3,z4,z5,z6,z7]:Array Value).setIfInBounds 2 a2=#[a0,a1,a2,z3,z4,z5,z6,z7] by simp] at h2
 have h3:=heap_setCell_same _ G 3 _ e a3 h2
 rw [show (#[a0,a1,a2,z3,z4,z5,z6,z7]:Array Value).setIfInBounds 3 a3=#[a0,a1,a2,a3,z4,z5,z6,z7] by simp] at h3
 have h4:=heap_setCell_same _ G 4 _ e a4 h3
 rw [show (#[a0,a1,a2,a3,z4,z5,z6,z7]:Array Value).setIfInBounds 4 a4=#[a0,a1,a2,a3,a4,z5,z6,z7] by simp] at h4
 have h5:=heap_setCell_same _ G 5 _ e a5 h4
 rw [show (#[a0,a1,a2,a3,a4,z5,z6,z7]:Array Value).setIfInBounds 5 a5=#[a0,a1,a2,a3,a4,a5,z6,z7] by simp] at h5
 have h6:=heap_setCell_same _ G 6 _ e a6 h5
 rw [show (#[a0,a1,a2,a3,a4,a5,z6,z7]:Array Value).setIfInBounds 6 a6=#[a0,a1,a2,a3,a4,a5,a6,z7] by simp] at h6
 have h7:=heap_setCell_same _ G 7 _ e a7 h6
 rw [show (#[a0,a1,a2,a3,a4,a5,a6,z7]:Array Value).setIfInBounds 7 a7=#[a0,a1,a2,a3,a4,a5,a6,a7] by simp] at h7
 exact h7
theorem vec_size:(Tryz.prog.info? 37).map (·.size)=some 8:=by kernel_rfl
theorem ret_vec {fn:Func}{p:Tmp} (h:fn.results=#[.cell p 37]) (tmps:Array Value) (w:World) (G:Nat){e:TypeId}{a0 a1 a2 a3 a4 a5 a6 a7:Value}
  (hp:tmps.getD p undef= .pointer (some ⟨G,0,none⟩)) (hg:w.heap[G]?=some (.cells #[a0,a1,a2,a3,a4,a5,a6,a7] e)) :
  (results fn tmps).run Tryz.prog w= .ok (.agg #[a0,a1,a2,a3,a4,a5,a6,a7]) w :=
 results_cell_row h tmps w G e _ (0,0) _ hp hg Tryz.underlying37 rfl vec_size
theorem ret_vec2 {fn:Func}{p u:Tmp} (h:fn.results=#[.cell p 37,.tmp u]) (tmps:Array Value) (w:World) (G:Nat){e:TypeId}{a0 a1 a2 a3 a4 a5 a6 a7:Value}
  (hp:tmps.getD p undef= .pointer (some ⟨G,0,none⟩)) (hg:w.heap[G]?=some (.cells #[a0,a1,a2,a3,a4,a5,a6,a7] e)) :
  (results fn tmps).run Tryz.prog w= .ok (.tuple #[.agg #[a0,a1,a2,a3,a4,a5,a6,a7],tmps.getD u undef]) w:=by
 rw [results_cell_tmp h,hp]
 have:=run_loadVar_row (P:=Tryz.prog) w G e 37 _ (0,0) _ hg Tryz.underlying37 rfl vec_size
 simp [asAddr,Result.andThen,this]
theorem smalls_any {w:World}{v:Value}{l:List Int} (h:Reads1 w v (l.map (.int .i8))) (hl:l.length<=1000000) :
  Calls Tryz.prog 192 #[v] w fun e w'=>∃ u,e= .returned (vecV 2 vnil 0 u vnil vnil vnil vnil)/\Own1 w' w.heap.size 219 u (l.map (.int .i8))/\Below w.heap.size w w':=by
 have HR:=Lib.hid h
 have HC:=Lib.hid (fun w2 (hb:Below w.heap.size w w2)=>cl8_any (h.below hb) (by rw [List.length_map];omega) (by intro u hu;obtain ⟨z,_,rfl⟩:=List.mem_map.1 hu;rfl))
 clear h
 go_enter Tryz.func192,Tryz.ntmps192
 go_wp2_with fail
 refine (HC.out _ (bel1 _ _)).mono ?_
 rintro e w1 ⟨u,rfl,ho,hb1⟩
 have HB1:=Lib.hid ((bel1 w _).trans (hb1.mono (bel1 w _).size))
 obtain ⟨h0,h1,h2,h3,h4,h5,h6,h7⟩:=(boxed_new w 37 0 vnil 0 vnil vnil vnil vnil vnil).below hb1
 have HK:=Lib.hid (block_up hb1)
 have hz:∀ j,w1.frozen? ⟨w.heap.size,j,none⟩=false:=fun j=>by rw [hb1.frozen (by simp)];exact frozen_new _ _ _ _
 have HNE:Hid (u.ownBlock≠some w.heap.size):=fun e=>by have:=(World.ownsRow.lt ho _ e).1;simp at this;omega
 have HO:=Lib.hid ho
 obtain ⟨a,n,c,hu⟩:∃ a n c,u= .slice a n c:=by obtain ⟨a,c,e⟩:=ho.reads.len;exact ⟨a,_,c,e⟩
 subst hu
 clear hb1 ho
 go_wp2
 exact bodyPost_ret (ret_vec rfl _ _ _ rfl (set8_block HK.out _ _ _ _ _ _ _ _)) rfl ⟨_,rfl,own_set8 (HO.out.lower (by simp)) HNE.out _ _ _ _ _ _ _ _,below_set8 HB1.out (Nat.le_refl _) _ _ _ _ _ _ _ _⟩
theorem chars_any {w:World}{v:Value}{l:List Int} (h:Reads1 w v (l.map (.int .i32))) (hl:l.length<=1000000) :
  Calls Tryz.prog 162 #[v] w fun e w'=>∃ u,e= .returned (vecV 5 vnil 0 vnil vnil vnil u vnil)/\Own1 w' w.heap.size 21 u (l.map (.int .i32))/\Below w.heap.size w w':=by
 have HR:=Lib.hid h
 have HC:=Lib.hid (fun w2 (hb:Below w.heap.size w w2)=>clR_any (h.below hb) (by rw [List.length_map];omega) (by intro u hu;obtain ⟨z,_,rfl⟩:=List.mem_map.1 hu;rfl))
 clear h
 go_enter Tryz.func162,Tryz.ntmps162
 go_wp2_with fail
 refine (HC.out _ (bel1 _ _)).mono ?_
 rintro e w1 ⟨u,rfl,ho,hb1⟩
 have HB1:=Lib.hid ((bel1 w _).trans (hb1.mono (bel1 w _).size))
 obtain ⟨h0,h1,h2,h3,h4,h5,h6,h7⟩:=(boxed_new w 37 0 vnil 0 vnil vnil vnil vnil vnil).below hb1
 have HK:=Lib.hid (block_up hb1)
 have hz:∀ j,w1.frozen? ⟨w.heap.size,j,none⟩=false:=fun j=>by rw [hb1.frozen (by simp)];exact frozen_new _ _ _ _
 have HNE:Hid (u.ownBlock≠some w.heap.size):=fun e=>by have:=(World.ownsRow.lt ho _ e).1;simp at this;omega
 have HO:=Lib.hid ho
 obtain ⟨a,n,c,hu⟩:∃ a n c,u= .slice a n c:=by obtain ⟨a,c,e⟩:=ho.reads.len;exact ⟨a,_,c,e⟩
 subst hu
 clear hb1 ho
 go_wp2
 exact bodyPost_ret (ret_vec rfl _ _ _ rfl (set8_block HK.out _ _ _ _ _ _ _ _)) rfl ⟨_,rfl,own_set8 (HO.out.lower (by simp)) HNE.out _ _ _ _ _ _ _ _,below_set8 HB1.out (Nat.le_refl _) _ _ _ _ _ _ _ _⟩
theorem ints_walk (b o n c:Nat) (l:List Int) (hn:n=l.length) (hl:n<=1000000) (w:World) (hc:∀ i (h:i < l.length),w.cell? ⟨b,o+i,none⟩=some (.int .i64 l[i])) (hg:∀ x∈l,-9007199254740992<=x/\x<=9007199254740992) :
  Calls Tryz.prog 141 #[.slice (some ⟨b,o,none⟩) n c] w fun e w'=>∃ u,e= .returned (.tuple #[vecV 3 vnil 0 vnil u vnil vnil vnil,.bool true])/\Own1 w' w.heap.size 2 u (l.map (.int .i64))/\Below w.heap.size w w':=by
 have HR:Hid (Reads1 w (.slice (some ⟨b,o,none⟩) n c) (l.map (.int .i64))) := .inr ⟨b,o,n,c,rfl,by rw [List.length_map];exact hn,fun i hi=>by rw [hc i (by simpa using hi)];simp⟩
 have HC:=Lib.hid (fun w2 (hb:Below w.heap.size w w2)=>cl64_any (HR.out.below hb) (by rw [List.length_map];omega) (by intro u hu;obtain ⟨z,_,rfl⟩:=List.mem_map.1 hu;rfl))
 have HCC:=Lib.hid hc
 have HG:=Lib.hid hg
 have HN:=Lib.hid hn
 clear hc hg hn
 go_enter Tryz.func141,Tryz.ntmps141
 go_wp2
 go_loopw [8] (fun j wr=>∃ m:Nat,m<=n/\j= .int .i64 m/\wr=w.alloc (.cells #[.int .i64 0,.slice none 0 0,.int .i64 0,.slice none 0 0,.slice none 0 0,.slice none 0 0,.slice none 0 0,.slice none 0 0] 37)) (fun j _=>n - (intOf j).toNat)
 case atStart=>exact ⟨0,Nat.zero_le _,rfl,rfl⟩
 case round =>
  obtain ⟨m,hm,rfl,rfl⟩:=hrel
  by_cases hlt:m < n
  ·have hlt':m < l.length:=by rw [<- HN.out];exact hlt
   have hcell:=fun a=>cell_box1 (HCC.out m hlt') a
   obtain ⟨hx1,hx2⟩:=HG.out l[m] (List.getElem_mem _)
   generalize l[m]=x at *
   go_wp2
   go_roundw
   case rel=>exact ⟨m+1,by omega,by go_num,by first | trivial | rfl⟩
   case measure=>simp [intOf];omega
  ·obtain rfl:m=n:=by omega
   go_wp2_with fail
   refine (HC.out _ (bel1 _ _)).mono ?_
   rintro e w1 ⟨u,rfl,ho,hb1⟩
   have HB1:=Lib.hid ((bel1 w _).trans (hb1.mono (bel1 w _).size))
   obtain ⟨h0,h1,h2,h3,h4,h5,h6,h7⟩:=(boxed_new w 37 0 vnil 0 vnil vnil vnil vnil vnil).below hb1
   have HK:=Lib.hid (block_up hb1)
   have hz:∀ j,w1.frozen? ⟨w.heap.size,j,none⟩=false:=fun j=>by rw [hb1.frozen (by simp)];exact frozen_new _ _ _ _
   have HNE:Hid (u.ownBlock≠some w.heap.size):=fun e=>by have:=(World.ownsRow.lt ho _ e).1;simp at this;omega
   have HO:=Lib.hid ho
   obtain ⟨a,n,c,hu⟩:∃ a n c,u= .slice a n c:=by obtain ⟨a,c,e⟩:=ho.reads.len;exact ⟨a,_,c,e⟩
   subst hu
   clear hb1 ho
   go_wp2
   refine bodyPost_ret (v := .tuple #[vecV 3 vnil 0 vnil (.slice a n c) vnil vnil vnil,.bool true]) ?_ rfl ⟨.slice a n c,rfl,own_set8 (HO.out.lower (by simp)) HNE.out _ _ _ _ _ _ _ _,below_set8 HB1.out (Nat.le_refl _) _ _ _ _ _ _ _ _⟩
   exact ret_vec2 (fn:=Tryz.f141) (p:=2) (u:=3) rfl _ _ w.heap.size (by rfl) (set8_block HK.out _ _ _ _ _ _ _ _)
theorem boxed_of {w:World}{G:Nat}{e:TypeId}{k:Int}{b:Value}{bn:Int}{s i f c x:Value} (h:w.heap[G]?=some (.cells #[.int .i64 k,b,.int .i64 bn,s,i,f,c,x] e)) :
  Boxed w G k b bn s i f c x/\∀ j,w.frozen? ⟨G,j,none⟩=false:=by
 have h2:∀ j u,#[.int .i64 k,b,.int .i64 bn,s,i,f,c,x][j]?=some u->w.cell? ⟨G,j,none⟩=some u:=by
  intro j u hu
  rw [cell_of_row _ G j _ e (0,0) h]
  exact hu
 exact ⟨⟨h2 0 _ rfl,h2 1 _ rfl,h2 2 _ rfl,h2 3 _ rfl,h2 4 _ rfl,h2 5 _ rfl,h2 6 _ rfl,h2 7 _ rfl⟩,fun j=>frozen_of_row _ _ j _ e h⟩
abbrev zcells:Array Value:=#[.int .i64 0,.slice none 0 0,.int .i64 0,.slice none 0 0,.slice none 0 0,.slice none 0 0,.slice none 0 0,.slice none 0 0]
theorem floats_walk (b o n c:Nat) (x y:Nat->Nat) (hn:n<=1000000) (w:World) (hc:∀ i,i < n->w.cell? ⟨b,o+i,none⟩=some (.float .f64 (x i)))
  (ht:∀ i,i < n->∀ W,Calls Tryz.prog 252 #[.float .f64 (x i)] W fun e w'=>e= .returned (.tuple #[.float .f64 (y i),.bool true])/\W=w') :
  Calls Tryz.prog 218 #[.slice (some ⟨b,o,none⟩) n c] w fun e w'=>∃ u,e= .returned (.tuple #[vecV 4 vnil 0 vnil vnil u vnil vnil,.bool true])/\Own1 w' w.heap.size 55 u ((List.range n).map fun j => .float .f64 (y j))/\Below w.heap.size w w':=by
 have HC:Hid (∀ wr,Below w.heap.size w wr->∀ i,i < n->wr.cell? ⟨b,o+i,none⟩=some (.float .f64 (x i))):=by
  intro wr hb i h
  rw [hb.cell (cell_lt (hc i h))];exact hc i h
 have HT:=Lib.hid ht
 have hmk:=run_make_row' (P:=Tryz.prog) 33 55 (.float .f64 0) 8 Tryz.underlying33 info_f64 rfl .i64 .i64 n (by omega) (by omega)
 clear hc ht
 have hsz:(w.alloc (.cells zcells 37)).heap.size=w.heap.size+1:=by simp
 have HF0:=Lib.hid (Fill.made (w.alloc (.cells zcells 37)) w.heap.size (by simp) 55 (fun j => .float .f64 (y j)) (.float .f64 0) n (by unfold maxLen;omega))
 rw [hsz] at HF0
 have HB0:=Lib.hid (bel2 w (.cells zcells 37) (.cells (madeCells #[.float .f64 0] n) 55))
 have HK0:=Lib.hid (block_up (bel1 (w.alloc (.cells zcells 37)) (.cells (madeCells #[.float .f64 0] n) 55)))
 clear hsz
 go_enter Tryz.func218,Tryz.ntmps218
 go_wp2
 go_loopw [14] (fun j wr=>∃ m:Nat,m<=n/\j= .int .i64 m/\Fill wr w.heap.size (w.heap.size+1) 55 (fun j => .float .f64 (y j)) (.float .f64 0) n m/\Below w.heap.size w wr/\wr.heap[w.heap.size]?=some (.cells zcells 37)) (fun j _=>n - (intOf j).toNat)
 case atStart=>exact ⟨0,Nat.zero_le _,rfl,HF0.out,HB0.out,HK0.out⟩
 case round =>
  obtain ⟨m,hm,rfl,hf,hbl,hk⟩:=hrel
  have HF:=Lib.hid hf
  have HBL:=Lib.hid hbl
  have HK:=Lib.hid hk
  clear hf hbl hk
  by_cases hlt:m < n
  ·have hcell:=HC.out wr HBL.out m hlt
   have hc3:=HF.out.cell hlt
   have hz3:=HF.out.frozen m
   have HP:=Lib.hid (HF.out.put hlt)
   have HB3:=Lib.hid (HF.out.bel HBL.out m (.float .f64 (y m)))
   have HK3:=Lib.hid (show (wr.setCell ⟨w.heap.size+1,m,none⟩ (.float .f64 (y m))).heap[w.heap.size]?=some (.cells zcells 37) by rw [Below.heap_setCell _ _ _ _ (by simp)];exact HK.out)
   have hst:=fun md=>store_float hc3 hz3 .f64 (y m) md
   have HTM:=Lib.hid (HT.out m hlt)
   go_wp2_with fail
   refine (HTM.out _).mono ?_
   rintro e w3 ⟨rfl,rfl⟩
   go_wp2
   go_roundw
   case rel=>exact ⟨m+1,by omega,by go_num,HP.out,HB3.out,HK3.out⟩
   case measure=>simp [intOf];omega
  ·obtain rfl:m=n:=by omega
   obtain ⟨⟨h0,h1,h2,h3,h4,h5,h6,h7⟩,hz⟩:=boxed_of HK.out
   go_wp2
   refine bodyPost_ret (v := .tuple #[vecV 4 vnil 0 vnil vnil (.slice (some ⟨w.heap.size+1,0,none⟩) m m) vnil vnil,.bool true]) ?_ rfl ⟨.slice (some ⟨w.heap.size+1,0,none⟩) m m,rfl,own_set8 HF.out.own (by simp [Value.ownBlock]) _ _ _ _ _ _ _ _,below_set8 HBL.out (Nat.le_refl _) _ _ _ _ _ _ _ _⟩
   exact ret_vec2 (fn:=Tryz.f218) (p:=2) (u:=3) rfl _ _ w.heap.size (by rfl) (set8_block HK.out _ _ _ _ _ _ _ _)
abbrev Good (n:Int):Prop := -9007199254740992<=n/\n<=9007199254740992
theorem good_any (a:Int) (h:Good a) (w:World):Calls Tryz.prog 303 #[.int .i64 a] w fun e w'=>e= .returned (.bool true)/\w=w':=by
 obtain ⟨h1,h2⟩:=h
 go_enter Tryz.func303,Tryz.ntmps303
 go_wp2
 go_ret
 exact ⟨by simp,rfl⟩
theorem fit_any (a:Int) (h:Good a) (w:World):Calls Tryz.prog 305 #[.int .i64 a] w fun e w'=>e= .returned (.tuple #[.int .i64 a,.bool true])/\w=w':=by
 obtain ⟨h1,h2⟩:=h
 go_enter Tryz.func305,Tryz.ntmps305
 go_wp2
 go_ret2
 exact ⟨by simp,rfl⟩
def rankS (n:Int):Nat:=if n=0\/n=1 then 1 else if -128<=n/\n<=127 then 2 else 3
theorem rank_any (n:Int) (w:World):Calls Tryz.prog 260 #[.int .i64 n] w fun e w'=>e= .returned (.int .i64 (rankS n:Nat))/\w=w':=by
 go_enter Tryz.func260,Tryz.ntmps260
 go_wp2
 all_goals go_ret
 all_goals refine ⟨?_,rfl⟩
 all_goals refine congrArg (fun b=>Ending.returned (.int .i64 b)) ?_
 all_goals unfold rankS
 all_goals (try simp only [beq_iff_eq,beq_eq_false_iff_ne,ne_eq] at *)
 all_goals first | (rw [if_pos (by omega)];rfl) | (rw [if_neg (by omega),if_pos (by omega)];rfl) | (rw [if_neg (by omega),if_neg (by omega)];rfl)
theorem bel_both {w a b:World} (h:Below w.heap.size w a) (k:Below a.heap.size a b):Below w.heap.size w b:=h.trans (k.mono h.size)
theorem info_i8:(Tryz.prog.info? 219).map (fun i=>(i.zero,i.size,i.bytes))=some (some (.int .i8 0),1,1):=by kernel_rfl
structure St (w W:World) (k:Int) (b:Value) (bn:Int) (s i f c x:Value):Prop where
 box:Boxed W w.heap.size k b bn s i f c x
 res:W.heap[w.heap.size+1]?=some (.cells zcells 37)
 bel:Below w.heap.size w W
theorem St.new (w:World) (k:Int) (b:Value) (bn:Int) (s i f c x:Value):St w ((w.alloc (.cells #[.int .i64 k,b,.int .i64 bn,s,i,f,c,x] 37)).alloc (.cells zcells 37)) k b bn s i f c x :=
 ⟨(boxed_new w 37 k b bn s i f c x).below (bel1 _ (.cells zcells 37)),by
  have:=heap_alloc_new (w.alloc (.cells #[.int .i64 k,b,.int .i64 bn,s,i,f,c,x] 37)) (.cells zcells 37)
  simpa using this,bel2 w _ _⟩
theorem St.step {w W W':World}{k:Int}{b:Value}{bn:Int}{s i f c x:Value} (h:St w W k b bn s i f c x) (hb:Below W.heap.size W W'):St w W' k b bn s i f c x :=
 ⟨h.box.below hb,by rw [hb.block _ (boxed_of h.res).1.lt];exact h.res,bel_both h.bel hb⟩
theorem rankS_le (n:Int):1<=rankS n/\rankS n<=3:=by unfold rankS;split <;> (try split) <;> omega
def Keeps (H:Nat->Prop) (w:World) (R:World->Prop):Prop:=∀ w',w.heap.size<=w'.heap.size->(∀ b,b < w.heap.size->¬ H b->w'.heap[b]?=w.heap[b]?)->R w'
theorem Keeps.now {H:Nat->Prop}{w:World}{R:World->Prop} (h:Keeps H w R):R w:=h w (Nat.le_refl _) fun _ _ _=>rfl
theorem Keeps.sub {H H':Nat->Prop}{w:World}{R:World->Prop} (h:Keeps H w R) (hs:∀ b,b < w.heap.size->H' b->H b):Keeps H' w R :=
 fun w' hz hb=>h w' hz fun b hl hn=>hb b hl fun hh=>hn (hs b hl hh)
theorem Keeps.imp {H:Nat->Prop}{w:World}{R R':World->Prop} (h:Keeps H w R) (hi:∀ w',R w'->R' w'):Keeps H w R':=fun w' hz hb=>hi _ (h w' hz hb)
theorem Keeps.and {H:Nat->Prop}{w:World}{R R':World->Prop} (h:Keeps H w R) (h':Keeps H w R'):Keeps H w fun w'=>R w'/\R' w':=fun w' hz hb=>⟨h w' hz hb,h' w' hz hb⟩
theorem Keeps.go {H:Nat->Prop}{w w1:World}{R:World->Prop} (h:Keeps H w R) (H':Nat->Prop) (hs:∀ b,b < w.heap.size->H' b->H b) (hz:w.heap.size<=w1.heap.size) (hb:∀ b,b < w.heap.size->¬ H b->w1.heap[b]?=w.heap[b]?):Keeps (fun b=>H' b\/w.heap.size<=b) w1 R :=
 fun w' hz' hb'=>h w' (Nat.le_trans hz hz') fun b hl hn=>by
  rw [hb' b (Nat.lt_of_lt_of_le hl hz) ?_,hb b hl hn]
  rintro (e | e)
  ·exact hn (hs b hl e)
  ·omega
theorem Keeps.below {H:Nat->Prop}{w w1:World}{R:World->Prop} (h:Keeps H w R) (hb:Below w.heap.size w w1):Keeps (fun b=>H b\/w.heap.size<=b) w1 R:=h.go H (fun _ _ e=>e) hb.size fun b hl _=>hb.block b hl
theorem Keeps.below' {H:Nat->Prop}{w w1:World}{R:World->Prop} (h:Keeps H w R) (hb:Below w.heap.size w w1) (H':Nat->Prop) (hs:∀ b,b < w.heap.size->H' b->H b):Keeps H' w1 R :=
 fun w' hz' hb'=>h w' (Nat.le_trans hb.size hz') fun b hl hn=>by rw [hb' b (Nat.lt_of_lt_of_le hl hb.size) (fun e=>hn (hs b hl e)),hb.block b hl]
theorem Keeps.step {H:Nat->Prop}{w w1:World}{R:World->Prop} (h:Keeps H w R) (hb:Below w.heap.size w w1):Keeps H w1 R:=h.below' hb H fun _ _ e=>e
theorem size_setCell' (w:World) (a:Addr) (u:Value):(w.setCell a u).heap.size=w.heap.size:=by
 have h1:=((Below.refl 0 w).setCell (Nat.zero_le a.block) u).size
 have h2:(w.setCell a u).heap.size<=w.heap.size:=by
  unfold World.setCell
  split <;> simp
 omega
theorem Keeps.set {H:Nat->Prop}{w:World}{R:World->Prop} (h:Keeps H w R){a:Addr} (ha:H a.block) (u:Value):Keeps H (w.setCell a u) R :=
 fun w' hz hb=>h w' (by rw [size_setCell'] at hz;exact hz) fun b hl hn=>by
  rw [hb b (by rw [size_setCell'];exact hl) hn,Below.heap_setCell _ _ _ _ (fun e=>hn (by rw [e];exact ha))]
theorem Keeps.set8 {H:Nat->Prop}{w:World}{R:World->Prop} (h:Keeps H w R){G:Nat} (hG:H G) (a0 a1 a2 a3 a4 a5 a6 a7:Value):Keeps H (set8 w G a0 a1 a2 a3 a4 a5 a6 a7) R :=
 (((((((h.set hG _).set hG _).set hG _).set hG _).set hG _).set hG _).set hG _).set hG _
theorem Own1.keeps {w:World}{B:Nat}{e:TypeId}{v:Value}{xs:List Value} (h:Own1 w B e v xs):Keeps (fun b=>b < B) w fun w'=>Reads1 w' v xs:=by
 intro w' hz hb
 rcases h.reads with h1 | ⟨b,o,n,c,rfl,hn,hc⟩
 ·exact .inl h1
 ·refine .inr ⟨b,o,n,c,rfl,hn,fun i hi=>?_⟩
  have hcell:=hc i hi
  have hlt:=cell_lt hcell
  have hB:B<=b:=by
   rcases h.2 with ⟨h2,_⟩ | ⟨g,cap,cur,hv,hbg,_⟩
   ·cases h2
   ·injection hv with h3 _ _
    injection h3 with h4
    injection h4 with h5 _ _
    omega
  rw [World.cell?_of_block (w:=w) (hb b hlt (by omega))]
  exact hcell
abbrev Hole (H:Nat->Prop) (w W:World):Nat->Prop:=fun b=>H b\/(w.heap.size<=b/\b < W.heap.size)
theorem Keeps.arg {H:Nat->Prop}{w W:World}{R:World->Prop} (h:Keeps H w R) (hb:Below w.heap.size w W):Keeps (Hole H w W) W R :=
 h.below' hb _ fun b hl e=>by
  rcases e with e | ⟨e,_⟩
  ·exact e
  ·omega
theorem Hole.lt {H:Nat->Prop}{w W:World} (hH:∀ b,H b->b < w.heap.size) (hb:Below w.heap.size w W):∀ b,Hole H w W b->b < W.heap.size:=by
 rintro b (e | ⟨_,e⟩)
 ·exact Nat.lt_of_lt_of_le (hH b e) hb.size
 ·exact e
theorem Own1.keepsH {w:World}{B:Nat}{e:TypeId}{v:Value}{xs:List Value} (h:Own1 w B e v xs){H:Nat->Prop} (hH:∀ b,H b->b < B):Keeps H w fun w'=>Reads1 w' v xs:=h.keeps.sub fun b _ e=>hH b e
end Go.Proofs.YtiahegjdkejjpaaGreatDoor
