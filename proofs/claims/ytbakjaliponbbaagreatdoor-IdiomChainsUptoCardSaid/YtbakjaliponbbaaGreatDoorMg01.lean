/- The walks of a Vec's small questions: Kind, Class, Len, Num, Whole, store by store. A Vec in a variable's own block; a Vec's numbers as the callers ask for .. Conditions: as each theorem says. -/
import Derived.Test.YtbakjaliponbbaaGreatDoorMg00
import Derived.Shelf.SlGeneric
import Derived.Shelf.SlicesE.Clone
set_option maxHeartbeats 1000000
namespace Go.Proofs.YtbakjaliponbbaaGreatDoor
open Go Go.RowKit Go.Proofs Fl
theorem kind_any (k:Int) (b:Value) (bn:Int) (s i f c x:Value) (w:World) :
  Calls Tryz.prog 52 #[vecV k b bn s i f c x] w fun e w'=>e= .returned (.int .i64 k)/\Below w.heap.size w w':=by
 go_enter Tryz.func52,Tryz.ntmps52
 go_wp2
 all_goals go_ret
 all_goals exact ⟨rfl,by first | exact Below.refl _ _ | exact bel1 _ _ | exact bel2 _ _ _ | exact bel3 _ _ _ _ | exact bel4 _ _ _ _ _⟩
theorem class_1 (b:Value) (bn:Int) (s i f c x:Value) (w:World) :
  Calls Tryz.prog 135 #[vecV 1 b bn s i f c x] w fun e w'=>e= .returned (.int .i64 0)/\Below w.heap.size w w':=by
 go_enter Tryz.func135,Tryz.ntmps135
 go_wp2
 all_goals go_ret
 all_goals exact ⟨rfl,by first | exact Below.refl _ _ | exact bel1 _ _ | exact bel2 _ _ _ | exact bel3 _ _ _ _ | exact bel4 _ _ _ _ _⟩
theorem class_2 (b:Value) (bn:Int) (s i f c x:Value) (w:World) :
  Calls Tryz.prog 135 #[vecV 2 b bn s i f c x] w fun e w'=>e= .returned (.int .i64 0)/\Below w.heap.size w w':=by
 go_enter Tryz.func135,Tryz.ntmps135
 go_wp2
 all_goals go_ret
 all_goals exact ⟨rfl,by first | exact Below.refl _ _ | exact bel1 _ _ | exact bel2 _ _ _ | exact bel3 _ _ _ _ | exact bel4 _ _ _ _ _⟩
theorem class_3 (b:Value) (bn:Int) (s i f c x:Value) (w:World) :
  Calls Tryz.prog 135 #[vecV 3 b bn s i f c x] w fun e w'=>e= .returned (.int .i64 0)/\Below w.heap.size w w':=by
 go_enter Tryz.func135,Tryz.ntmps135
 go_wp2
 all_goals go_ret
 all_goals exact ⟨rfl,by first | exact Below.refl _ _ | exact bel1 _ _ | exact bel2 _ _ _ | exact bel3 _ _ _ _ | exact bel4 _ _ _ _ _⟩
theorem class_4 (b:Value) (bn:Int) (s i f c x:Value) (w:World) :
  Calls Tryz.prog 135 #[vecV 4 b bn s i f c x] w fun e w'=>e= .returned (.int .i64 0)/\Below w.heap.size w w':=by
 go_enter Tryz.func135,Tryz.ntmps135
 go_wp2
 all_goals go_ret
 all_goals exact ⟨rfl,by first | exact Below.refl _ _ | exact bel1 _ _ | exact bel2 _ _ _ | exact bel3 _ _ _ _ | exact bel4 _ _ _ _ _⟩
theorem class_5 (b:Value) (bn:Int) (s i f c x:Value) (w:World) :
  Calls Tryz.prog 135 #[vecV 5 b bn s i f c x] w fun e w'=>e= .returned (.int .i64 1)/\Below w.heap.size w w':=by
 go_enter Tryz.func135,Tryz.ntmps135
 go_wp2
 all_goals go_ret
 all_goals exact ⟨rfl,by first | exact Below.refl _ _ | exact bel1 _ _ | exact bel2 _ _ _ | exact bel3 _ _ _ _ | exact bel4 _ _ _ _ _⟩
theorem class_6 (b:Value) (bn:Int) (s i f c x:Value) (w:World) :
  Calls Tryz.prog 135 #[vecV 6 b bn s i f c x] w fun e w'=>e= .returned (.int .i64 2)/\Below w.heap.size w w':=by
 go_enter Tryz.func135,Tryz.ntmps135
 go_wp2
 all_goals go_ret
 all_goals exact ⟨rfl,by first | exact Below.refl _ _ | exact bel1 _ _ | exact bel2 _ _ _ | exact bel3 _ _ _ _ | exact bel4 _ _ _ _ _⟩
theorem len_2 (b:Value) (bn:Int) (i f c x:Value) (p:Option Addr) (n q:Nat) (w:World) :
  Calls Tryz.prog 48 #[vecV 2 b bn (.slice p n q) i f c x] w fun e w'=>e= .returned (.int .i64 n)/\Below w.heap.size w w':=by
 go_enter Tryz.func48,Tryz.ntmps48
 go_wp2
 all_goals go_ret
 all_goals exact ⟨rfl,by first | exact Below.refl _ _ | exact bel1 _ _ | exact bel2 _ _ _ | exact bel3 _ _ _ _ | exact bel4 _ _ _ _ _⟩
theorem len_3 (b:Value) (bn:Int) (s f c x:Value) (p:Option Addr) (n q:Nat) (w:World) :
  Calls Tryz.prog 48 #[vecV 3 b bn s (.slice p n q) f c x] w fun e w'=>e= .returned (.int .i64 n)/\Below w.heap.size w w':=by
 go_enter Tryz.func48,Tryz.ntmps48
 go_wp2
 all_goals go_ret
 all_goals exact ⟨rfl,by first | exact Below.refl _ _ | exact bel1 _ _ | exact bel2 _ _ _ | exact bel3 _ _ _ _ | exact bel4 _ _ _ _ _⟩
theorem len_4 (b:Value) (bn:Int) (s i c x:Value) (p:Option Addr) (n q:Nat) (w:World) :
  Calls Tryz.prog 48 #[vecV 4 b bn s i (.slice p n q) c x] w fun e w'=>e= .returned (.int .i64 n)/\Below w.heap.size w w':=by
 go_enter Tryz.func48,Tryz.ntmps48
 go_wp2
 all_goals go_ret
 all_goals exact ⟨rfl,by first | exact Below.refl _ _ | exact bel1 _ _ | exact bel2 _ _ _ | exact bel3 _ _ _ _ | exact bel4 _ _ _ _ _⟩
theorem len_5 (b:Value) (bn:Int) (s i f x:Value) (p:Option Addr) (n q:Nat) (w:World) :
  Calls Tryz.prog 48 #[vecV 5 b bn s i f (.slice p n q) x] w fun e w'=>e= .returned (.int .i64 n)/\Below w.heap.size w w':=by
 go_enter Tryz.func48,Tryz.ntmps48
 go_wp2
 all_goals go_ret
 all_goals exact ⟨rfl,by first | exact Below.refl _ _ | exact bel1 _ _ | exact bel2 _ _ _ | exact bel3 _ _ _ _ | exact bel4 _ _ _ _ _⟩
theorem len_6 (b:Value) (bn:Int) (s i f c:Value) (p:Option Addr) (n q:Nat) (w:World) :
  Calls Tryz.prog 48 #[vecV 6 b bn s i f c (.slice p n q)] w fun e w'=>e= .returned (.int .i64 n)/\Below w.heap.size w w':=by
 go_enter Tryz.func48,Tryz.ntmps48
 go_wp2
 all_goals go_ret
 all_goals exact ⟨rfl,by first | exact Below.refl _ _ | exact bel1 _ _ | exact bel2 _ _ _ | exact bel3 _ _ _ _ | exact bel4 _ _ _ _ _⟩
theorem len_1 (b:Value) (bn:Int) (s i f c x:Value) (w:World) :
  Calls Tryz.prog 48 #[vecV 1 b bn s i f c x] w fun e w'=>e= .returned (.int .i64 bn)/\Below w.heap.size w w':=by
 go_enter Tryz.func48,Tryz.ntmps48
 go_wp2
 all_goals go_ret
 all_goals exact ⟨rfl,by first | exact Below.refl _ _ | exact bel1 _ _ | exact bel2 _ _ _ | exact bel3 _ _ _ _ | exact bel4 _ _ _ _ _⟩
theorem num_2 (b:Value) (bn:Int) (i f c x:Value) (B o n q j:Nat) (hj:j < n) (z:Int) (w:World) (hc:w.cell? ⟨B,o+j,none⟩=some (.int .i8 z)) :
  Calls Tryz.prog 138 #[vecV 2 b bn (.slice (some ⟨B,o,none⟩) n q) i f c x,.int .i64 (j:Int)] w fun e w'=>e= .returned (.float .f64 (floatOfInt .f64 z))/\Below w.heap.size w w':=by
 have h1:=fun a=>cell_box1 hc a
 have h2:=fun a b=>cell_box2 hc a b
 have h3:=fun a b d=>cell_box3 hc a b d
 have h4:=fun a b d g=>cell_box4 hc a b d g
 go_enter Tryz.func138,Tryz.ntmps138
 go_wp2
 all_goals go_ret
 all_goals exact ⟨rfl,by first | exact Below.refl _ _ | exact bel1 _ _ | exact bel2 _ _ _ | exact bel3 _ _ _ _ | exact bel4 _ _ _ _ _⟩
theorem vwhole_2 (b:Value) (bn:Int) (i f c x:Value) (B o n q j:Nat) (hj:j < n) (z:Int) (hz:-128<=z) (hz2:z<=127) (w:World) (hc:w.cell? ⟨B,o+j,none⟩=some (.int .i8 z)) :
  Calls Tryz.prog 201 #[vecV 2 b bn (.slice (some ⟨B,o,none⟩) n q) i f c x,.int .i64 (j:Int)] w fun e w'=>e= .returned (.tuple #[.int .i64 z,.bool true])/\Below w.heap.size w w':=by
 have h1:=fun a=>cell_box1 hc a
 have h2:=fun a b=>cell_box2 hc a b
 have h3:=fun a b d=>cell_box3 hc a b d
 have h4:=fun a b d g=>cell_box4 hc a b d g
 go_enter Tryz.func201,Tryz.ntmps201
 go_wp2
 all_goals go_ret2
 all_goals exact ⟨rfl,by first | exact Below.refl _ _ | exact bel1 _ _ | exact bel2 _ _ _ | exact bel3 _ _ _ _ | exact bel4 _ _ _ _ _⟩
theorem num_3 (b:Value) (bn:Int) (s f c x:Value) (B o n q j:Nat) (hj:j < n) (z:Int) (w:World) (hc:w.cell? ⟨B,o+j,none⟩=some (.int .i64 z)) :
  Calls Tryz.prog 138 #[vecV 3 b bn s (.slice (some ⟨B,o,none⟩) n q) f c x,.int .i64 (j:Int)] w fun e w'=>e= .returned (.float .f64 (floatOfInt .f64 z))/\Below w.heap.size w w':=by
 have h1:=fun a=>cell_box1 hc a
 have h2:=fun a b=>cell_box2 hc a b
 have h3:=fun a b d=>cell_box3 hc a b d
 have h4:=fun a b d g=>cell_box4 hc a b d g
 go_enter Tryz.func138,Tryz.ntmps138
 go_wp2
 all_goals go_ret
 all_goals exact ⟨rfl,by first | exact Below.refl _ _ | exact bel1 _ _ | exact bel2 _ _ _ | exact bel3 _ _ _ _ | exact bel4 _ _ _ _ _⟩
theorem vwhole_3 (b:Value) (bn:Int) (s f c x:Value) (B o n q j:Nat) (hj:j < n) (z:Int) (w:World) (hc:w.cell? ⟨B,o+j,none⟩=some (.int .i64 z)) :
  Calls Tryz.prog 201 #[vecV 3 b bn s (.slice (some ⟨B,o,none⟩) n q) f c x,.int .i64 (j:Int)] w fun e w'=>e= .returned (.tuple #[.int .i64 z,.bool true])/\Below w.heap.size w w':=by
 have h1:=fun a=>cell_box1 hc a
 have h2:=fun a b=>cell_box2 hc a b
 have h3:=fun a b d=>cell_box3 hc a b d
 have h4:=fun a b d g=>cell_box4 hc a b d g
 go_enter Tryz.func201,Tryz.ntmps201
 go_wp2
 all_goals go_ret2
 all_goals exact ⟨rfl,by first | exact Below.refl _ _ | exact bel1 _ _ | exact bel2 _ _ _ | exact bel3 _ _ _ _ | exact bel4 _ _ _ _ _⟩
theorem num_4 (b:Value) (bn:Int) (s i c x:Value) (B o n q j:Nat) (hj:j < n) (y:Nat) (w:World) (hc:w.cell? ⟨B,o+j,none⟩=some (.float .f64 y)) :
  Calls Tryz.prog 138 #[vecV 4 b bn s i (.slice (some ⟨B,o,none⟩) n q) c x,.int .i64 (j:Int)] w fun e w'=>e= .returned (.float .f64 y)/\Below w.heap.size w w':=by
 have h1:=fun a=>cell_box1 hc a
 have h2:=fun a b=>cell_box2 hc a b
 have h3:=fun a b d=>cell_box3 hc a b d
 have h4:=fun a b d g=>cell_box4 hc a b d g
 go_enter Tryz.func138,Tryz.ntmps138
 go_wp2
 all_goals go_ret
 all_goals exact ⟨rfl,by first | exact Below.refl _ _ | exact bel1 _ _ | exact bel2 _ _ _ | exact bel3 _ _ _ _ | exact bel4 _ _ _ _ _⟩
theorem vwhole_4 (b:Value) (bn:Int) (s i c x:Value) (B o n q j:Nat) (hj:j < n) (w:World) :
  Calls Tryz.prog 201 #[vecV 4 b bn s i (.slice (some ⟨B,o,none⟩) n q) c x,.int .i64 (j:Int)] w fun e w'=>e= .returned (.tuple #[.int .i64 0,.bool false])/\Below w.heap.size w w':=by
 go_enter Tryz.func201,Tryz.ntmps201
 go_wp2
 all_goals go_ret2
 all_goals exact ⟨rfl,by first | exact Below.refl _ _ | exact bel1 _ _ | exact bel2 _ _ _ | exact bel3 _ _ _ _ | exact bel4 _ _ _ _ _⟩
def Boxed (w:World) (G:Nat) (k:Int) (b:Value) (bn:Int) (s i f c x:Value):Prop :=
 w.cell? ⟨G,0,none⟩=some (.int .i64 k)/\w.cell? ⟨G,1,none⟩=some b/\w.cell? ⟨G,2,none⟩=some (.int .i64 bn)/\w.cell? ⟨G,3,none⟩=some s /\
  w.cell? ⟨G,4,none⟩=some i/\w.cell? ⟨G,5,none⟩=some f/\w.cell? ⟨G,6,none⟩=some c/\w.cell? ⟨G,7,none⟩=some x
theorem boxed_new (w:World) (e:TypeId) (k:Int) (b:Value) (bn:Int) (s i f c x:Value):Boxed (w.alloc (.cells #[.int .i64 k,b,.int .i64 bn,s,i,f,c,x] e)) w.heap.size k b bn s i f c x:=by
 have h:∀ j u,#[.int .i64 k,b,.int .i64 bn,s,i,f,c,x][j]?=some u->(w.alloc (.cells #[.int .i64 k,b,.int .i64 bn,s,i,f,c,x] e)).cell? ⟨w.heap.size,j,none⟩=some u:=by
  intro j u hu
  rw [cell_of_row _ w.heap.size j _ e (0,0) (heap_alloc_new w _)]
  exact hu
 exact ⟨h 0 _ rfl,h 1 _ rfl,h 2 _ rfl,h 3 _ rfl,h 4 _ rfl,h 5 _ rfl,h 6 _ rfl,h 7 _ rfl⟩
theorem Boxed.of {w w':World}{G:Nat}{k:Int}{b:Value}{bn:Int}{s i f c x:Value} (h:Boxed w G k b bn s i f c x) (e:∀ j,w'.cell? ⟨G,j,none⟩=w.cell? ⟨G,j,none⟩):Boxed w' G k b bn s i f c x:=by
 unfold Boxed
 rw [e,e,e,e,e,e,e,e]
 exact h
theorem Boxed.lt {w:World}{G:Nat}{k:Int}{b:Value}{bn:Int}{s i f c x:Value} (h:Boxed w G k b bn s i f c x):G < w.heap.size:=cell_lt h.1
theorem Boxed.below {w w':World}{G:Nat}{k:Int}{b:Value}{bn:Int}{s i f c x:Value} (h:Boxed w G k b bn s i f c x) (hb:Below w.heap.size w w'):Boxed w' G k b bn s i f c x:=h.of fun _=>hb.cell h.lt
theorem Boxed.set {w:World}{G:Nat}{k:Int}{b:Value}{bn:Int}{s i f c x:Value} (h:Boxed w G k b bn s i f c x){p:Addr} (hp:p.block≠G) (u:Value):Boxed (w.setCell p u) G k b bn s i f c x :=
 h.of fun _=>World.cell?_of_block (w:=w) (Below.heap_setCell w p u G (fun e=>hp e.symm))
structure NumsOf (w:World) (v:Value) (n:Nat) (F:Nat->Nat):Prop where
 cls:∀ w',Below w.heap.size w w'->Calls Tryz.prog 135 #[v] w' fun e w2=>e= .returned (.int .i64 0)/\Below w'.heap.size w' w2
 len:∀ w',Below w.heap.size w w'->Calls Tryz.prog 48 #[v] w' fun e w2=>e= .returned (.int .i64 n)/\Below w'.heap.size w' w2
 num:∀ w',Below w.heap.size w w'->∀ j,j < n->Calls Tryz.prog 138 #[v,.int .i64 (j:Nat)] w' fun e w2=>e= .returned (.float .f64 (F j))/\Below w'.heap.size w' w2
theorem info_f64:(Tryz.prog.info? 96).map (fun i=>(i.zero,i.size,i.bytes))=some (some (.float .f64 0),1,8):=by kernel_rfl
theorem store_float {w:World}{a:Addr}{y:Value} (hc:w.cell? a=some y) (hf:w.frozen? a=false) (k:FloatKind) (x:Nat) (m:Mode):(store a (.float k x) m).run Tryz.prog w= .ok () (w.setCell a (.float k x)):=by
 rw [run_store Tryz.prog w a _ m rfl,hc]
 simp [hf]
end Go.Proofs.YtbakjaliponbbaaGreatDoor
namespace Go.Proofs.YtbakjaliponbbaaGreatDoor
open Go Go.RowKit Go.Proofs Go.Shelf Go.Lib
section
variable {P:Program} {ρ:Ren}
theorem clone_zero (L:SlLaysE0.n41 P ρ) (i0:TypeInfo) (z:Value) (bytes:Nat) (hi:P.info? (ρ.t 23)=some i0) (hz0:i0.zero=some z) (hz1:i0.size=1) (hz2:i0.bytes=bytes) (hzs:z.cells.size=1)
  (z23:∀ w,(Go.sizeOf (ρ.t 23)).run P w= .ok 1 w) (x:Addr) (c:Nat) (w:World) :
  Calls P (ρ.f 41) #[.slice (some x) 0 c] w fun e w'=>∃ v',e= .returned v'/\w'.ownsRow w.heap.size (ρ.t 23) 1 v' 0 []/\Below w.heap.size w w':=by
 have mixed:=L.mixed;have t4:=L.t4;have a4:=L.a4;have z4:=L.z4;have v4:=L.v4;have t22:=L.t22;have a22:=L.a22;have z22:=L.z22;have v22:=L.v22
 have q22:∀ (w:World) (a:Option Addr) (n c n' c':Nat),(binOp .eql (ρ.t 22) (.slice a n c) (.slice none n' c')).run P w= .ok (.bool a.isNone) w:=fun w a n c n' c'=>Lib.run_eql_slice_nil w _ _ a n c n' c' L.t22
 have u22:∀ w,Sem.run P (underlying (ρ.t 22)) w= .ok (TypeDesc.slice (ρ.t 23)) w:=run_underlying t22
 obtain ⟨_,_,FG⟩:=L.f41
 obtain ⟨n,hn⟩:∃ n:Nat,n=0:=⟨0,rfl⟩
 rw [<- hn]
 have HN:=Lib.hid hn
 clear hn
 go_enter FG,SlBodyN.n41_ntmps ρ
 go_wp2_with (at_builtin;refine wpList_append_own _ rfl _ _ (ρ.t 22) rfl w.heap.size (ρ.t 23) i0 z 1 bytes t22 hi hz0 hz1 hz2 hzs (by decide) _ _ _ rfl (World.ownsRow_made w #[] 0 (Nat.le_refl _) (Nat.zero_le _) (by simp)) x n c [] rfl ?qc1 ?qc2 ?qc3 ?qc4 ?qc5 ?qc6 ?_)
 case qc1=>rw [HN.out];rfl
 case qc2 =>
  intro j u hj
  simp at hj
 case qc3=>intro u hu;cases hu
 case qc4=>rw [Nat.zero_add,HN.out];exact Nat.zero_le _
 case qc5=>rw [Nat.zero_add,HN.out,Nat.zero_mul];exact Nat.zero_le _
 case qc6=>simp
 intro v' w1 hown hgrow hnil
 go_wp2
 go_ret
 refine ⟨v',rfl,hown,?_⟩
 exact ((Below.refl _ w).alloc (Nat.le_refl _) _).grown hgrow (by simp) (by intro k hk;simp [Value.ownBlock] at hk;omega)
theorem clone_reads (L:SlLaysE0.n41 P ρ) (z:Value) (bytes:Nat) (hinfo:(P.info? (ρ.t 23)).map (fun i=>(i.zero,i.size,i.bytes))=some (some z,1,bytes)) (hzs:z.cells.size=1)
  (z23:∀ w,(Go.sizeOf (ρ.t 23)).run P w= .ok 1 w) {w:World} {v:Value} {xs:List Value} (h:Reads1 w v xs) (hl:xs.length*bytes<=140737488355328) (hl2:xs.length<=140737488355328) (h1:∀ u∈xs,u.oneCell'=true) :
  Calls P (ρ.f 41) #[v] w fun e w'=>∃ v',e= .returned v'/\w'.ownsRow w.heap.size (ρ.t 23) 1 v' xs.length xs/\Below w.heap.size w w':=by
 obtain ⟨i0,hi,hz0,hz1,hz2⟩:=info_parts hinfo
 rcases h with ⟨x,c,rfl,rfl⟩ | ⟨b,o,n,c,rfl,hn,hc⟩
 ·cases x with
  | none =>
   refine (AnyE.slices_Clone_nil L 0 c w).mono ?_
   rintro e w' ⟨rfl,rfl⟩
   exact ⟨_,rfl,World.ownsRow_nil _ _ _ _,Below.refl _ _⟩
  | some x=>exact clone_zero L i0 z bytes hi hz0 hz1 hz2 hzs z23 x c w
 ·refine (AnyE.slices_Clone L i0 z 1 bytes hi hz0 hz1 hz2 hzs (by decide) z23 b o n c xs w (by omega) (by unfold maxLen;omega) (by rw [hn];exact hl) ?_ h1).mono ?_
  ·intro j u hj
   obtain ⟨hlt,rfl⟩:=List.getElem?_eq_some_iff.1 hj
   exact hc j hlt
  ·rintro e w' ⟨v',rfl,ho,_,hb⟩
   rw [hn] at ho
   exact ⟨v',rfl,ho,hb⟩
end
theorem info_cl64:(Tryz.prog.info? 2).map (fun i=>(i.zero,i.size,i.bytes))=some (some (.int .i64 0),1,8):=by kernel_rfl
def cl64_ren:Go.Shelf.Ren:=⟨fun | 41=>252 | n=>n,fun | 22=>54 | 23=>2 | 4=>4 | n=>n,fun n=>n⟩
theorem cl64_lays:SlLaysE0.n41 Tryz.prog cl64_ren where
 mixed:=by kernel_rfl
 f41 := ⟨"slices.Clone[[]int64,int64]", by decide, Tryz.func252.trans (congrArg some (by kernel_rfl))⟩
 t4:=Tryz.underlying4
 a4:=Tryz.isAgg4
 z4:=Tryz.sizeOf4
 v4:=Tryz.zeroValue4
 t22:=Tryz.underlying54
 a22:=Tryz.isAgg54
 z22:=Tryz.sizeOf54
 v22:=Tryz.zeroValue54
theorem cl64_any {w:World}{v:Value}{xs:List Value} (h:Reads1 w v xs) (hl:xs.length*8<=140737488355328) (h1:∀ u∈xs,u.oneCell'=true) :
  Calls Tryz.prog 252 #[v] w fun e w'=>∃ v',e= .returned v'/\Own1 w' w.heap.size 2 v' xs/\Below w.heap.size w w' :=
 clone_reads cl64_lays (.int .i64 0) 8 info_cl64 rfl Tryz.sizeOf2 h (by omega) (by omega) h1
theorem info_cl8:(Tryz.prog.info? 196).map (fun i=>(i.zero,i.size,i.bytes))=some (some (.int .i8 0),1,1):=by kernel_rfl
def cl8_ren:Go.Shelf.Ren:=⟨fun | 41=>269 | n=>n,fun | 22=>53 | 23=>196 | 4=>4 | n=>n,fun n=>n⟩
theorem cl8_lays:SlLaysE0.n41 Tryz.prog cl8_ren where
 mixed:=by kernel_rfl
 f41 := ⟨"slices.Clone[[]int8,int8]", by decide, Tryz.func269.trans (congrArg some (by kernel_rfl))⟩
 t4:=Tryz.underlying4
 a4:=Tryz.isAgg4
 z4:=Tryz.sizeOf4
 v4:=Tryz.zeroValue4
 t22:=Tryz.underlying53
 a22:=Tryz.isAgg53
 z22:=Tryz.sizeOf53
 v22:=Tryz.zeroValue53
theorem cl8_any {w:World}{v:Value}{xs:List Value} (h:Reads1 w v xs) (hl:xs.length*8<=140737488355328) (h1:∀ u∈xs,u.oneCell'=true) :
  Calls Tryz.prog 269 #[v] w fun e w'=>∃ v',e= .returned v'/\Own1 w' w.heap.size 196 v' xs/\Below w.heap.size w w' :=
 clone_reads cl8_lays (.int .i8 0) 1 info_cl8 rfl Tryz.sizeOf196 h (by omega) (by omega) h1
theorem info_clR:(Tryz.prog.info? 21).map (fun i=>(i.zero,i.size,i.bytes))=some (some (.int .i32 0),1,4):=by kernel_rfl
def clR_ren:Go.Shelf.Ren:=⟨fun | 41=>206 | n=>n,fun | 22=>27 | 23=>21 | 4=>4 | n=>n,fun n=>n⟩
theorem clR_lays:SlLaysE0.n41 Tryz.prog clR_ren where
 mixed:=by kernel_rfl
 f41 := ⟨"slices.Clone[[]rune,rune]", by decide, Tryz.func206.trans (congrArg some (by kernel_rfl))⟩
 t4:=Tryz.underlying4
 a4:=Tryz.isAgg4
 z4:=Tryz.sizeOf4
 v4:=Tryz.zeroValue4
 t22:=Tryz.underlying27
 a22:=Tryz.isAgg27
 z22:=Tryz.sizeOf27
 v22:=Tryz.zeroValue27
theorem clR_any {w:World}{v:Value}{xs:List Value} (h:Reads1 w v xs) (hl:xs.length*8<=140737488355328) (h1:∀ u∈xs,u.oneCell'=true) :
  Calls Tryz.prog 206 #[v] w fun e w'=>∃ v',e= .returned v'/\Own1 w' w.heap.size 21 v' xs/\Below w.heap.size w w' :=
 clone_reads clR_lays (.int .i32 0) 4 info_clR rfl Tryz.sizeOf21 h (by omega) (by omega) h1
def clA_ren:Go.Shelf.Ren:=⟨fun | 41=>207 | n=>n,fun | 22=>55 | 23=>59 | 4=>4 | n=>n,fun n=>n⟩
theorem clA_lays:SlLaysE0.n41 Tryz.prog clA_ren where
 mixed:=by kernel_rfl
 f41 := ⟨"slices.Clone[[]rebus/vec.Array,rebus/vec.Array]", by decide, Tryz.func207.trans (congrArg some (by kernel_rfl))⟩
 t4:=Tryz.underlying4
 a4:=Tryz.isAgg4
 z4:=Tryz.sizeOf4
 v4:=Tryz.zeroValue4
 t22:=Tryz.underlying55
 a22:=Tryz.isAgg55
 z22:=Tryz.sizeOf55
 v22:=Tryz.zeroValue55
end Go.Proofs.YtbakjaliponbbaaGreatDoor
