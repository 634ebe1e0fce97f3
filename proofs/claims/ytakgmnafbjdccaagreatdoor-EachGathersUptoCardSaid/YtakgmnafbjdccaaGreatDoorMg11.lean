/- The walks of vec.Floats at tidy numbers, of squeeze.Numbers, of Nums and Same at numbers. The walk of fold.floats, both outcomes. The walk of fold.floats: the .. Conditions: as each theorem says. -/
import Derived.Test.YtakgmnafbjdccaaGreatDoorMg10
set_option maxRecDepth 100000
set_option maxHeartbeats 4000000
namespace Go.Proofs.YtakgmnafbjdccaaGreatDoor
open Go Go.RowKit Go.Proofs Fl
theorem ntidy_tf {b:Nat} (h:TF b) (w:World):Calls Tryz.prog 228 #[.float .f64 b] w fun e w'=>e= .returned (.tuple #[.float .f64 b,.bool true])/\w=w':=by
 have hd:=doneP_tf h
 obtain ⟨s,Z,hz,rfl,h0⟩:=h
 have h1:=ntidy_num s hz w
 rw [doneP_num s hz] at hd
 rw [(Prod.mk.inj hd).1] at h1
 exact h1
theorem bits_tf {b:Nat} (h:TF b) (w:World):Calls Tryz.prog 190 #[.float .f64 b,.float .f64 b] w fun e w'=>e= .returned (.bool true)/\w=w':=by
 obtain ⟨s,Z,hz,rfl,h0⟩:=h
 exact bits_same' s hz w
theorem floats_zero (a:Option Addr) (c:Nat) (w:World) :
  Calls Tryz.prog 185 #[.slice a 0 c] w fun e w'=>∃ u,e= .returned (.tuple #[vecV 4 vnil 0 vnil vnil u vnil vnil,.bool true])/\Own1 w' w.heap.size 51 u []/\Below w.heap.size w w':=by
 have hmk:=run_make_row' (P:=Tryz.prog) 34 51 (.float .f64 0) 8 Tryz.underlying34 info_f64 rfl .i64 .i64 0 (by omega) (by omega)
 rw [show ((0:Nat):Int)=0 from rfl] at hmk
 have hsz:(w.alloc (.cells #[.int .i64 4,vnil,.int .i64 0,vnil,vnil,.slice (some ⟨w.heap.size+1,0,none⟩) 0 0,vnil,vnil] 38)).heap.size=w.heap.size+1:=by simp
 have HF0:=Lib.hid (Fill.made (w.alloc (.cells #[.int .i64 4,vnil,.int .i64 0,vnil,vnil,.slice (some ⟨w.heap.size+1,0,none⟩) 0 0,vnil,vnil] 38)) w.heap.size (by simp) 51 (fun _ => .float .f64 0) (.float .f64 0) 0 (by unfold maxLen;omega)).own
 rw [hsz] at HF0
 have HB0:=Lib.hid (bel2 w (.cells #[.int .i64 4,vnil,.int .i64 0,vnil,vnil,.slice (some ⟨w.heap.size+1,0,none⟩) 0 0,vnil,vnil] 38) (.cells (madeCells #[.float .f64 0] 0) 51))
 have HK0:=Lib.hid (block_up (bel1 (w.alloc (.cells #[.int .i64 4,vnil,.int .i64 0,vnil,vnil,.slice (some ⟨w.heap.size+1,0,none⟩) 0 0,vnil,vnil] 38)) (.cells (madeCells #[.float .f64 0] 0) 51)))
 clear hsz
 go_enter Tryz.func185,Tryz.ntmps185
 go_wp2
 refine wp_loop_rounds 1 ?_
 rw [rounds_succ]
 go_wp2
 refine bodyPost_ret (v := .tuple #[vecV 4 vnil 0 vnil vnil (.slice (some ⟨w.heap.size+1,0,none⟩) 0 0) vnil vnil,.bool true]) ?_ rfl ⟨.slice (some ⟨w.heap.size+1,0,none⟩) 0 0,rfl,HF0.out,HB0.out⟩
 exact ret_vec2 (fn:=Tryz.f185) (p:=2) (u:=3) rfl _ _ w.heap.size (by rfl) HK0.out
theorem floats_any {w:World}{v:Value}{n:Nat}{F:Nat->Nat} (hr:Reads1 w v ((List.range n).map fun j => .float .f64 (F j))) (hn:n<=1000000) (ht:∀ j,j < n->TF (F j)) :
  Calls Tryz.prog 185 #[v] w fun e w'=>∃ a m c,e= .returned (.tuple #[vecV 4 vnil 0 vnil vnil (.slice a m c) vnil vnil,.bool true])/\Own1 w' w.heap.size 51 (.slice a m c) ((List.range n).map fun j => .float .f64 (F j))/\Below w.heap.size w w':=by
 obtain ⟨a,c,rfl,hc⟩:=reads_at hr
 by_cases h0:n=0
 ·subst h0
  refine (floats_zero a c w).mono ?_
  rintro e w' ⟨u,rfl,ho,hb⟩
  obtain ⟨a,c,rfl⟩:∃ a c,u= .slice a 0 c:=ho.reads.len
  exact ⟨a,0,c,rfl,ho,hb⟩
 ·obtain ⟨b,o,rfl,_⟩:=hc 0 (by omega)
  refine (floats_walk b o n c F F hn w (fun i hi=>?_) (fun i hi W=>ntidy_tf (ht i hi) W)).mono ?_
  ·obtain ⟨b',o',e,hcell⟩:=hc i hi
   injection e with e
   injection e with e1 e2 _
   subst e1;subst e2
   exact hcell
  ·rintro e w' ⟨u,rfl,ho,hb⟩
   obtain ⟨a,c,rfl⟩:=ho.reads.len
   exact ⟨a,_,c,rfl,ho,hb⟩
theorem numbers_any (H:Nat->Prop) (v:Value) (n:Nat) (F:Nat->Nat) (w:World) (hH:∀ b,H b->b < w.heap.size) (hr:Reads1 w v ((List.range n).map fun j => .float .f64 (F j))) (hn:n<=1000000) (ht:∀ j,j < n->TF (F j)) :
  Calls Tryz.prog 115 #[v] w (Vec2R H w (fun u W=>NumV u (leastF F n:Nat) n F W)):=by
 have HF:=Lib.hid (floats_any (hr.below (bel1 w (.cells zcells 38))) hn ht)
 have HT:=Lib.hid ht
 have HH:=Lib.hid hH
 obtain ⟨v1,v2,v3,rfl⟩:∃ a m c,v= .slice a m c:=by obtain ⟨a,c,e⟩:=hr.len;exact ⟨a,_,c,e⟩
 clear hr ht hH
 go_enter Tryz.func115,Tryz.ntmps115
 go_wp2_with fail
 refine HF.out.mono ?_
 rintro e w1 ⟨a,m,c,rfl,ho,hb1⟩
 have HK1:=Lib.hid (block_up hb1)
 have HB1:=Lib.hid (bel_both (bel1 w _) hb1)
 have HO:=Lib.hid (ho.lower (show w.heap.size+1<=_ by simp))
 clear hb1 ho
 have HB2:=Lib.hid (bel_both HB1.out (bel1 w1 (.cells #[.int .i64 4,vnil,.int .i64 0,vnil,vnil,.slice a m c,vnil,vnil] 38)))
 have HK2:=Lib.hid ((Below.heap_alloc w1 (.cells #[.int .i64 4,vnil,.int .i64 0,vnil,vnil,.slice a m c,vnil,vnil] 38) _ (lt_of_block HK1.out)).trans HK1.out)
 have HKV:Hid (Keeps (fun j=>H j\/j=w.heap.size) (w1.alloc (.cells #[.int .i64 4,vnil,.int .i64 0,vnil,vnil,.slice a m c,vnil,vnil] 38)) (NumV (vecW 4 (none,0,0) 0 (none,0,0) (none,0,0) (a,m,c) (none,0,0) (none,0,0)) 4 n F)) :=
  ((HO.out.keepsH (fun j e=>by rcases e with e | e;have:=HH.out j e;omega;omega)).imp fun W' h2=>numV_floats ⟨⟨_,rfl,h2⟩,HT.out⟩).step (bel1 w1 _)
 have HS:=Lib.hid (squeeze_num (fun j=>H j\/j=w.heap.size) 4 (none,0,0) 0 (none,0,0) (none,0,0) (a,m,c) (none,0,0) (none,0,0) n F _ (fun j e=>by
  have h1:=HB2.out.size
  have h2:=lt_of_block HK2.out
  rcases e with e | e
  ·have:=HH.out j e;omega
  ·omega) hn HKV.out)
 go_wp2_with fail
 refine HS.out.mono ?_
 rintro e w3 ⟨k4,b4,bn4,s4,i4,f4,c4,x4,rfl,hk4,hb4⟩
 have HB4:=Lib.hid (bel_both HB2.out hb4)
 have HK4:=Lib.hid (show w3.heap[w.heap.size]?=some (.cells zcells 38) by rw [hb4.block _ (lt_of_block HK2.out)];exact HK2.out)
 have HKE:=Lib.hid hk4
 clear hb4 hk4
 obtain ⟨⟨h0,h1,h2,h3,h4,h5,h6,h7⟩,hz⟩:=boxed_of HK4.out
 go_wp2
 refine bodyPost_ret (v := .tuple #[vecW k4 b4 bn4 s4 i4 f4 c4 x4,.bool true]) ?_ rfl ⟨k4,b4,bn4,s4,i4,f4,c4,x4,rfl,(HKE.out.set8 (.inr rfl) _ _ _ _ _ _ _ _).sub (fun _ _ e => .inl e),below_set8 HB4.out (Nat.le_refl _) _ _ _ _ _ _ _ _⟩
 exact ret_vec2 (fn:=Tryz.f115) (p:=2) (u:=3) rfl _ _ w.heap.size (by rfl) (set8_block HK4.out _ _ _ _ _ _ _ _)
theorem nums_num (k:Int) (b:Value) (bn:Int) (s i f c x:Value) (n:Nat) (F:Nat->Nat) (w:World) (hn:n<=1000000) (hN:∀ W,Below w.heap.size w W->NumV (vecV k b bn s i f c x) k n F W) :
  Calls Tryz.prog 193 #[vecV k b bn s i f c x] w fun e w'=>∃ v,e= .returned v/\Own1 w' w.heap.size 51 v ((List.range n).map fun j => .float .f64 (F j))/\Below w.heap.size w w' :=
 nums_walk k b bn s i f c x n F w ⟨fun W hb=>(hN W hb).cls,fun W hb=>(hN W hb).len,fun W hb j hj=>(hN W hb).num j hj⟩ hn
theorem oneP_cases {pw:Nat->Nat->Nat×Int} (hp:PowIs pw) (f:Int){a b:Nat} (ha:TF a) (hb:TF b):(∃ c,TF c/\oneP pw f a b=(c,0))\/oneP pw f a b=(0,24):=by
 unfold oneP
 split
 ·exact doneP_cases (add_tot ha hb).2
 split
 ·exact doneP_cases (sub_tot ha hb).2
 split
 ·exact doneP_cases (mul_tot ha hb).2
 split
 ·unfold divP
  split
  ·split
   ·exact .inl ⟨_,tf_one,rfl⟩
   ·exact .inr rfl
  ·rename_i h0;exact doneP_cases (div_tot ha hb h0).2
 split
 ·exact .inl ⟨_,maxP_tf ha hb,rfl⟩
 split
 ·exact .inl ⟨_,minP_tf ha hb,rfl⟩
 split
 ·unfold restP
  split
  ·rename_i x y ex ey;exact .inl ⟨_,tf_fi (restZ_good (wholeP_some ex).1 (wholeP_some ey).1),rfl⟩
  ·exact .inr rfl
 split
 ·exact hp.tf a b ha hb
 split
 ·exact .inl ⟨_,tf_flag _,rfl⟩
 ·unfold logP
  split
  ·exact .inl ⟨_,tf_flag _,rfl⟩
  ·exact .inr rfl
def stepsR (g:Nat->Nat->Nat×Int) (x:Nat->Nat) (n:Nat):Nat->Option Nat
 | 0=>some (x (n - 1))
 | m+1=>(stepsR g x n m).bind fun y=>if (g (x (n - 2 - m)) y).2=0 then some (g (x (n - 2 - m)) y).1 else none
def rowR (g:Nat->Nat->Nat×Int) (x:Nat->Nat) (n:Nat):Option Nat:=stepsR g x n (n - 1)
theorem stepsR_none {g:Nat->Nat->Nat×Int}{x:Nat->Nat}{n m:Nat} (h:stepsR g x n m=none) (j:Nat):stepsR g x n (m+j)=none:=by
 induction j with
 | zero=>exact h
 | succ j ih =>
  show (stepsR g x n (m+j)).bind _=none
  rw [ih];rfl
theorem rowR_none {g:Nat->Nat->Nat×Int}{x:Nat->Nat}{n m:Nat} (hm:m<=n - 1) (h:stepsR g x n m=none):rowR g x n=none:=by
 have:=stepsR_none h (n - 1 - m)
 rw [show m+(n - 1 - m)=n - 1 by omega] at this
 exact this
theorem stepsR_tf {pw:Nat->Nat->Nat×Int} (hp:PowIs pw){f:Int}{x:Nat->Nat}{n:Nat} (hn:1<=n) (hx:∀ i,i < n->TF (x i)):∀ m,m<=n - 1->∀ y,stepsR (oneP pw f) x n m=some y->TF y:=by
 intro m
 induction m with
 | zero=>intro _ y h;injection h with h;rw [<- h];exact hx _ (by omega)
 | succ m ih =>
  intro hm y h
  unfold stepsR at h
  cases hs:stepsR (oneP pw f) x n m with
  | none=>rw [hs] at h;cases h
  | some z =>
   rw [hs] at h
   have hz:=ih (by omega) z hs
   rcases oneP_cases hp f (hx (n - 2 - m) (by omega)) hz with ⟨c,hc,e⟩ | e
   ·simp [e] at h
    rw [<- h];exact hc
   ·simp [e] at h
def lineF (F:Nat->Nat) (n inner o k:Nat):Nat->Nat:=fun i=>F (o*n*inner+k+i*inner)
def rowsR (g:Nat->Nat->Nat×Int) (F:Nat->Nat) (n inner c:Nat):Option Nat:=rowR g (lineF F n inner (c / inner) (c % inner)) n
theorem rowsR_at {g:Nat->Nat->Nat×Int}{F:Nat->Nat}{n inner o k:Nat} (h:k < inner):rowsR g F n inner (o*inner+k)=rowR g (lineF F n inner o k) n:=by
 have h1:(o*inner+k) / inner=o:=by rw [Nat.mul_comm,Nat.mul_add_div (by omega),Nat.div_eq_of_lt h];omega
 have h2:(o*inner+k) % inner=k:=by rw [Nat.mul_comm,Nat.mul_add_mod,Nat.mod_eq_of_lt h]
 unfold rowsR
 rw [h1,h2]
def outF (g:Nat->Nat->Nat×Int) (F:Nat->Nat) (n inner c:Nat):Nat:=(rowsR g F n inner c).getD 0
theorem outF_some {g:Nat->Nat->Nat×Int}{F:Nat->Nat}{n inner c y:Nat} (h:rowsR g F n inner c=some y):outF g F n inner c=y:=by unfold outF;rw [h];rfl
def FlOut (H:Nat->Prop) (w:World) (g:Nat->Nat->Nat×Int) (F:Nat->Nat) (n inner N:Nat) (e:Ending) (w':World):Prop :=
 ((∀ c,c < N->∃ y,rowsR g F n inner c=some y)/\VecOk H w (fun u W=>NumV u (leastF (outF g F n inner) N:Nat) N (outF g F n inner) W) e w') \/
 ((∃ c,c < N/\rowsR g F n inner c=none)/\e= .returned (.tuple #[vecV 0 vnil 0 vnil vnil vnil vnil vnil,.int .i64 24])/\Below w.heap.size w w')
theorem make_capF (n:Nat) (hn:n<=1000000) (w:World):(Instr.makeSlice 34 (.int .i64 0) (.int .i64 (n:Int))).run Tryz.prog w= .ok (.slice (some ⟨w.heap.size,0,none⟩) 0 n) (w.alloc (.cells (madeCells #[.float .f64 0] n) 51)):=by
 obtain ⟨i,hi,hz,hs,hb⟩:=info_parts info_f64
 have hr:=run_make (P:=Tryz.prog) w 34 51 i (.float .f64 0) Tryz.underlying34 hi hz .i64 .i64 0 (n:Int) (by omega) (by omega) (by rw [hb];omega) (by omega)
 simp only [Int.toNat_natCast,hs,Nat.mul_one] at hr
 exact hr
theorem St.two {w W W':World}{k:Int}{b:Value}{bn:Int}{s i f c x:Value} (h:St w W k b bn s i f c x) (hb:Below (w.heap.size+2) W W'):St w W' k b bn s i f c x :=
 ⟨h.box.of fun j=>hb.cell (p:=⟨w.heap.size,j,none⟩) (by show w.heap.size < _;omega),by rw [hb.block _ (by omega)];exact h.res,h.bel.trans (hb.mono (by omega))⟩
theorem outF_succ {g:Nat->Nat->Nat×Int}{F:Nat->Nat}{n inner c y:Nat} (h:rowsR g F n inner c=some y):((List.range c).map fun j=>Value.float .f64 (outF g F n inner j))++[.float .f64 y]=(List.range (c+1)).map fun j => .float .f64 (outF g F n inner j):=by
 rw [List.range_succ,List.map_append]
 simp [outF_some h]
theorem ffloats_any {pw:Nat->Nat->Nat×Int} (hp:PowIs pw) (H:Nat->Prop) (q:Int) (hq:knownB q=true) (kk:Int) (b:Value) (bn:Int) (s i f c x:Value) (T:Nat) (outer n inner:Nat) (F:Nat->Nat) (w:World) (hH:∀ b,H b->b < w.heap.size)
  (hT:T=outer*n*inner) (hn:1<=n) (hb1:outer<=1000) (hb2:n<=1000) (hb3:inner<=1000) (hbT:T<=1000000) (hbN:outer*inner<=1000000)
  (hN:∀ W,Below w.heap.size w W->NumV (vecV kk b bn s i f c x) kk T F W) :
  Calls Tryz.prog 168 #[.int .i64 q,vecV kk b bn s i f c x,.int .i64 (outer:Int),.int .i64 (n:Int),.int .i64 (inner:Int)] w (FlOut H w (oneP pw q) F n inner (outer*inner)):=by
 have HT:=Lib.hid hT
 have HNV:=Lib.hid hN
 have HTF:=Lib.hid ((hN w (Below.refl _ _)).tf)
 have HONE:=Lib.hid (fun a b ha hb W=>one_any hp q hq a b ha hb W)
 have HP:=Lib.hid hp
 have HH:=Lib.hid hH
 obtain ⟨N,hNN⟩:∃ N,N=outer*inner:=⟨_,rfl⟩
 have hNb:N<=1000000:=by omega
 have hNi:(outer:Int)*(inner:Int)=(N:Int):=by rw [hNN];push_cast;rfl
 have hmk:=make_capF N hNb
 have HN:=Lib.hid hNN
 rw [<- hNN]
 clear hT hN hNN hbN hp hH hq
 have HO1:Hid (Own1 (((w.alloc (.cells #[.int .i64 kk,b,.int .i64 bn,s,i,f,c,x] 38)).alloc (.cells zcells 38)).alloc (.cells (madeCells #[.float .f64 0] N) 51)) (w.heap.size+2) 51 (.slice (some ⟨w.heap.size+1+1,0,none⟩) 0 N) ((List.range (0*inner)).map fun j => .float .f64 (outF (oneP pw q) F n inner j))):=by
  have h:=World.ownsRow_made (base:=w.heap.size+2) (e:=51) (size:=1) ((w.alloc (.cells #[.int .i64 kk,b,.int .i64 bn,s,i,f,c,x] 38)).alloc (.cells zcells 38)) (madeCells #[.float .f64 0] N) N (by simp) (by unfold maxLen;omega) (by rw [size_madeCells];omega)
  have e:((w.alloc (.cells #[.int .i64 kk,b,.int .i64 bn,s,i,f,c,x] 38)).alloc (.cells zcells 38)).heap.size=w.heap.size+1+1:=by simp
  rw [e] at h
  rw [Nat.zero_mul]
  exact h
 have HSM:=Lib.hid ((St.new w kk b bn s i f c x).al (.cells (madeCells #[.float .f64 0] N) 51))
 go_enter Tryz.func168,Tryz.ntmps168
 go_wp2_with fail
 go_loopw [12,27] (fun v oo wr=>∃ o:Nat,o<=outer/\oo= .int .i64 o/\Own1 wr (w.heap.size+2) 51 v ((List.range (o*inner)).map fun j => .float .f64 (outF (oneP pw q) F n inner j))/\St w wr kk b bn s i f c x/\∀ cc,cc < o*inner->∃ y,rowsR (oneP pw q) F n inner cc=some y) (fun _ oo _=>outer - (intOf oo).toNat)
 case atStart=>exact ⟨0,Nat.zero_le _,rfl,HO1.out,HSM.out,fun cc h=>by rw [Nat.zero_mul] at h;exact absurd h (Nat.not_lt_zero _)⟩
 case round =>
  clear hmk hNi HO1 HSM
  obtain ⟨o,ho,rfl,hown,hst,hall⟩:=hrel
  have HOWN:=Lib.hid hown
  have HST:=Lib.hid hst
  have HALL:=Lib.hid hall
  clear hown hst hall
  by_cases hlt:o < outer
  ·have HOWN':=Lib.hid (show Own1 wr (w.heap.size+2) 51 _ ((List.range (o*inner+0)).map fun j => .float .f64 (outF (oneP pw q) F n inner j)) from HOWN.out)
   have HALL':=Lib.hid (show ∀ cc,cc < o*inner+0->∃ y,rowsR (oneP pw q) F n inner cc=some y from HALL.out)
   go_wp2_with fail
   go_loopw [12,31] (fun v kx wr=>∃ k:Nat,k<=inner/\kx= .int .i64 k/\Own1 wr (w.heap.size+2) 51 v ((List.range (o*inner+k)).map fun j => .float .f64 (outF (oneP pw q) F n inner j))/\St w wr kk b bn s i f c x/\∀ cc,cc < o*inner+k->∃ y,rowsR (oneP pw q) F n inner cc=some y) (fun _ kx _=>inner - (intOf kx).toNat)
   case atStart=>exact ⟨0,Nat.zero_le _,rfl,HOWN'.out,HST.out,HALL'.out⟩
   case round =>
    clear HOWN HOWN' HST HALL HALL'
    obtain ⟨k,hk,rfl,hown,hst,hall⟩:=hrel
    have HOWN:=Lib.hid hown
    have HST:=Lib.hid hst
    have HALL:=Lib.hid hall
    clear hown hst hall
    by_cases hltk:k < inner
    ·obtain ⟨P1,eP1⟩:∃ P1,P1=o*n:=⟨_,rfl⟩
     obtain ⟨P2,eP2⟩:∃ P2,P2=P1*inner:=⟨_,rfl⟩
     obtain ⟨A,eA⟩:∃ A,A=P2+k:=⟨_,rfl⟩
     obtain ⟨Q,eQ⟩:∃ Q,Q=(n - 1)*inner:=⟨_,rfl⟩
     obtain ⟨I,eI⟩:∃ I,I=A+Q:=⟨_,rfl⟩
     have hI:I < T:=by rw [eI,eA,eP2,eP1,eQ,HT.out];exact idx_lt hlt hltk (by omega)
     have f1:(o:Int)*(n:Int)=(P1:Int):=by rw [eP1];push_cast;rfl
     have f2:(P1:Int)*(inner:Int)=(P2:Int):=by rw [eP2];push_cast;rfl
     have f3:(P2:Int)+(k:Int)=(A:Int):=by rw [eA];push_cast;rfl
     have f4:((n:Int) - 1)*(inner:Int)=(Q:Int):=by rw [eQ,Int.natCast_mul,Int.natCast_sub hn];rfl
     have f5:(A:Int)+(Q:Int)=(I:Int):=by rw [eI];push_cast;rfl
     have hP1:P1<=1000000:=by
      rw [eP1];exact Nat.le_trans (Nat.mul_le_mul (Nat.le_of_lt (Nat.lt_of_lt_of_le hlt hb1)) hb2) (by decide)
     have hP2:P2<=1000000:=by omega
     have hA:A<=1000000:=by omega
     have hQ:Q<=1000000:=by omega
     have eI':I=o*n*inner+k+(n - 1)*inner:=by rw [eI,eA,eP2,eP1,eQ]
     have eA':A=o*n*inner+k:=by rw [eA,eP2,eP1]
     have HEA:=Lib.hid eA'
     have HX0:Hid (stepsR (oneP pw q) (lineF F n inner o k) n 0=some (F I)):=by show some _=_;rw [eI'];rfl
     have hnum:=(HNV.out _ HST.out.bel).num I hI
     have HNUM:=Lib.hid hnum
     obtain ⟨h0,h1,h2,h3,h4,h5,h6,h7⟩:=HST.out.box
     clear eP1 eP2 eA eQ eI eI' eA' hnum
     go_wp2_with fail
     refine HNUM.out.mono ?_
     rintro e w2 ⟨rfl,hb2'⟩
     have HST2:=Lib.hid (HST.out.step hb2')
     have HOWN2:=Lib.hid (HOWN.out.below hb2')
     clear hb2' h0 h1 h2 h3 h4 h5 h6 h7
     generalize F I=y0 at HX0 ⊢
     go_wp2_with fail
     go_loopw [16,17] (fun xx ii wr=>∃ m y:Nat,m<=n - 1/\stepsR (oneP pw q) (lineF F n inner o k) n (n - 1 - m)=some y/\xx= .float .f64 y/\ii= .int .i64 ((m:Int) - 1)/\St w wr kk b bn s i f c x/\Own1 wr (w.heap.size+2) 51 u12 ((List.range (o*inner+k)).map fun j => .float .f64 (outF (oneP pw q) F n inner j))) (fun _ ii _=>(intOf ii+1).toNat)
     case atStart=>exact ⟨n - 1,y0,Nat.le_refl _,by rw [Nat.sub_self];exact HX0.out,rfl,by congr 1;omega,HST2.out,HOWN2.out⟩
     case round =>
      clear HX0 HNUM f1 f2 f3 f4 f5 hI HST HST2 HOWN HOWN2
      obtain ⟨m,y,hm,hsy,rfl,rfl,hst,hown⟩:=hrel
      have HSY:=Lib.hid hsy
      have HST:=Lib.hid hst
      have HOWN:=Lib.hid hown
      clear hsy hst hown
      rcases m with _ | j
      ·have e0:((0:Nat):Int) - 1=-1:=rfl
       rw [e0]
       have HRY:Hid (rowsR (oneP pw q) F n inner (o*inner+k)=some y):=by
        show _=_
        rw [rowsR_at hltk]
        exact HSY.out
       have HOS:=Lib.hid (outF_succ HRY.out)
       have hBw:w.heap.size+2<=wr.heap.size:=HST.out.sz
       have hcnt:o*inner+k < outer*inner:=by
        have:(o+1)*inner<=outer*inner:=Nat.mul_le_mul_right _ hlt
        rw [Nat.add_mul] at this
        omega
       have HFL:Hid ((((List.range (o*inner+k)).map fun j=>Value.float .f64 (outF (oneP pw q) F n inner j)).length+1)*8<=140737488355328):=by
        rw [List.length_map,List.length_range];have:=HN.out;show _<=_;omega
       have HFL2:Hid (((List.range (o*inner+k)).map fun j=>Value.float .f64 (outF (oneP pw q) F n inner j)).length+1<=140737488355328):=by
        rw [List.length_map,List.length_range];have:=HN.out;show _<=_;omega
       clear hcnt e0
       go_wp2_with (at_builtin;refine wpList_push1 rfl (.tmp 73) (.tmp 75) 34 51 rfl Tryz.underlying34 (.float .f64 0) 8 info_f64 rfl (w.heap.size+2) _ ((List.range (o*inner+k)).map fun j=>Value.float .f64 (outF (oneP pw q) F n inner j)) rfl HOWN.out (.float .f64 y) rfl rfl HFL.out HFL2.out hBw ?_;intro v' w1 hv' hb' _ hs';rw [HOS.out] at hv';have HV:=Lib.hid hv';have HB':=Lib.hid (hb' wr (Below.refl _ _));clear hb' hv' hs')
       go_roundw
       case rel=>exact ⟨k+1,by omega,by go_num,HV.out,HST.out.two HB'.out,fun cc hcc=>by
        by_cases e:cc=o*inner+k
        ·exact ⟨y,by rw [e];exact HRY.out⟩
        ·exact HALL.out cc (by omega)⟩
       case measure=>simp [intOf];omega
      ·have ej:((j+1:Nat):Int) - 1=(j:Int):=by omega
       rw [ej]
       obtain ⟨Q2,eQ2⟩:∃ Q2,Q2=j*inner:=⟨_,rfl⟩
       obtain ⟨I2,eI2⟩:∃ I2,I2=A+Q2:=⟨_,rfl⟩
       have hI2:I2 < T:=by rw [eI2,HEA.out,eQ2,HT.out];exact idx_lt hlt hltk (by omega)
       have f4:(j:Int)*(inner:Int)=(Q2:Int):=by rw [eQ2];push_cast;rfl
       have f5:(A:Int)+(Q2:Int)=(I2:Int):=by rw [eI2];push_cast;rfl
       have hQ2:Q2<=1000000:=by omega
       have HNUM:=Lib.hid ((HNV.out _ HST.out.bel).num I2 hI2)
       have HFI:=Lib.hid (HTF.out I2 hI2)
       have HYT:Hid (TF y):=stepsR_tf HP.out hn (fun i hi=>HTF.out _ (by rw [HT.out];exact idx_lt hlt hltk hi)) (n - 1 - (j+1)) (by omega) y HSY.out
       have HNX:Hid (stepsR (oneP pw q) (lineF F n inner o k) n (n - 1 - j)=if (oneP pw q (F I2) y).2=0 then some (oneP pw q (F I2) y).1 else none):=by
        have e1:n - 1 - j=(n - 1 - (j+1))+1:=by omega
        show _=_
        rw [e1]
        show (stepsR _ _ _ _).bind _=_
        rw [HSY.out]
        have e2:n - 2 - (n - 1 - (j+1))=j:=by omega
        show (if _ then some (oneP pw q (lineF F n inner o k (n - 2 - (n - 1 - (j+1)))) y).1 else none)=_
        rw [e2]
        have e3:lineF F n inner o k j=F I2:=by unfold lineF;rw [eI2,HEA.out,eQ2]
        rw [e3]
       have hj:j < 1000:=by omega
       have hjm:j<=n - 1:=by omega
       have hjn:n - 1 - j<=n - 1:=by omega
       obtain ⟨h0,h1,h2,h3,h4,h5,h6,h7⟩:=HST.out.box
       clear eQ2 eI2 ej hm HSY
       go_wp2_with fail
       refine HNUM.out.mono ?_
       rintro e w2 ⟨rfl,hb2'⟩
       have HST2:=Lib.hid (HST.out.step hb2')
       have HOWN2:=Lib.hid (HOWN.out.below hb2')
       have HONE2:=Lib.hid (fun W=>HONE.out (F I2) y HFI.out HYT.out W)
       clear hb2' h0 h1 h2 h3 h4 h5 h6 h7 HST HOWN HNUM
       have HC:=oneP_cases HP.out q HFI.out HYT.out
       generalize oneP pw q (F I2) y=d at HONE2 HNX HC
       generalize F I2=z at *
       rcases HC with ⟨z2,hz2,rfl⟩ | rfl
       ·have HNX2:Hid (stepsR (oneP pw q) (lineF F n inner o k) n (n - 1 - j)=some z2):=HNX.out
        clear HNX hz2
        go_wp2_with fail
        refine (HONE2.out _).mono ?_
        rintro e w' ⟨rfl,rfl⟩
        go_wp2
        go_roundw
        case rel=>exact ⟨j,z2,hjm,HNX2.out,rfl,rfl,HST2.out,HOWN2.out⟩
        case measure=>simp [intOf]
       ·have HNX2:Hid (stepsR (oneP pw q) (lineF F n inner o k) n (n - 1 - j)=none):=HNX.out
        have HBAD:Hid (∃ c,c < N/\rowsR (oneP pw q) F n inner c=none):=by
         refine ⟨o*inner+k,?_,?_⟩
         ·have:(o+1)*inner<=outer*inner:=Nat.mul_le_mul_right _ hlt
          rw [Nat.add_mul] at this
          rw [HN.out]
          omega
         ·rw [rowsR_at hltk];exact rowR_none hjn HNX2.out
        clear HNX HNX2
        go_wp2_with fail
        refine (HONE2.out _).mono ?_
        rintro e w' ⟨rfl,rfl⟩
        obtain ⟨⟨h0,h1,h2,h3,h4,h5,h6,h7⟩,hz⟩:=boxed_of HST2.out.res
        go_wp2
        refine bodyPost_ret (v := .tuple #[vecV 0 vnil 0 vnil vnil vnil vnil vnil,.int .i64 24]) ?_ rfl (.inr ⟨HBAD.out,rfl,below_set8 HST2.out.bel (Nat.le_succ _) _ _ _ _ _ _ _ _⟩)
        exact ret_vec2 (fn:=Tryz.f168) (p:=10) (u:=11) rfl _ _ (w.heap.size+1) (by rfl) (set8_block HST2.out.res _ _ _ _ _ _ _ _)
    ·obtain rfl:k=inner:=by omega
     have HOWN2:Hid (Own1 wr (w.heap.size+2) 51 u12 ((List.range ((o+1)*k)).map fun j => .float .f64 (outF (oneP pw q) F n k j))):=by rw [Nat.add_mul,Nat.one_mul];exact HOWN.out
     have HALL2:Hid (∀ cc,cc < (o+1)*k->∃ y,rowsR (oneP pw q) F n k cc=some y):=by rw [Nat.add_mul,Nat.one_mul];exact HALL.out
     go_wp2
     go_roundw
     case rel=>exact ⟨o+1,by omega,by go_num,HOWN2.out,HST.out,HALL2.out⟩
     case measure=>simp [intOf];omega
  ·obtain rfl:o=outer:=by omega
   have HALLN:Hid (∀ cc,cc < N->∃ y,rowsR (oneP pw q) F n inner cc=some y):=by rw [HN.out];exact HALL.out
   have HOWNN:Hid (Own1 wr (w.heap.size+2) 51 u12 ((List.range N).map fun j => .float .f64 (outF (oneP pw q) F n inner j))):=by rw [HN.out];exact HOWN.out
   have HTFO:Hid (∀ j,j < N->TF (outF (oneP pw q) F n inner j)):=by
    intro j hj
    obtain ⟨y,hy⟩:=HALLN.out j hj
    rw [outF_some hy]
    have hi:0 < inner:=by
     rcases Nat.eq_zero_or_pos inner with e | e
     ·have:=HN.out;rw [e,Nat.mul_zero] at this;omega
     ·exact e
    refine stepsR_tf HP.out hn (fun i hi2=>HTF.out _ ?_) (n - 1) (Nat.le_refl _) y hy
    rw [HT.out]
    refine idx_lt (Nat.div_lt_of_lt_mul ?_) (Nat.mod_lt _ hi) hi2
    have:=HN.out
    rw [Nat.mul_comm]
    omega
   have HNUMS:=Lib.hid (numbers_any (fun j=>H j\/j=w.heap.size+1) u12 N (outF (oneP pw q) F n inner) wr (fun j e=>by
    have h1:=HST.out.sz
    rcases e with e | e
    ·have:=HH.out j e;omega
    ·omega) HOWNN.out.reads hNb HTFO.out)
   clear HALL HOWN HOWNN HNV HTF HONE
   go_wp2_with fail
   refine HNUMS.out.mono ?_
   rintro e w5 ⟨k5,b5,bn5,s5,i5,f5,c5,x5,rfl,hk5,hb5⟩
   have HS5:=Lib.hid (HST.out.step hb5)
   have HK5:=Lib.hid hk5
   clear hb5 hk5
   have z5:w.heap.size < w5.heap.size:=HS5.out.box.lt
   have z5':w.heap.size+1 < w5.heap.size:=HS5.out.sz
   have HKE:=Lib.hid ((HK5.out.set8 (.inr rfl) (.int .i64 k5) (.slice b5.1 b5.2.1 b5.2.2) (.int .i64 bn5) (.slice s5.1 s5.2.1 s5.2.2) (.slice i5.1 i5.2.1 i5.2.2) (.slice f5.1 f5.2.1 f5.2.2) (.slice c5.1 c5.2.1 c5.2.2) (.slice x5.1 x5.2.1 x5.2.2)).sub (H':=H) fun _ _ e => .inl e)
   have HBE:=Lib.hid (below_set8 HS5.out.bel (Nat.le_succ _) (.int .i64 k5) (.slice b5.1 b5.2.1 b5.2.2) (.int .i64 bn5) (.slice s5.1 s5.2.1 s5.2.2) (.slice i5.1 i5.2.1 i5.2.2) (.slice f5.1 f5.2.1 f5.2.2) (.slice c5.1 c5.2.1 c5.2.2) (.slice x5.1 x5.2.1 x5.2.2))
   have HRE:=Lib.hid (set8_block HS5.out.res (.int .i64 k5) (.slice b5.1 b5.2.1 b5.2.2) (.int .i64 bn5) (.slice s5.1 s5.2.1 s5.2.2) (.slice i5.1 i5.2.1 i5.2.2) (.slice f5.1 f5.2.1 f5.2.2) (.slice c5.1 c5.2.1 c5.2.2) (.slice x5.1 x5.2.1 x5.2.2))
   obtain ⟨⟨h0,h1,h2,h3,h4,h5,h6,h7⟩,hz⟩:=boxed_of HS5.out.res
   go_wp2
   refine bodyPost_ret (v := .tuple #[vecW k5 b5 bn5 s5 i5 f5 c5 x5,.int .i64 0]) ?_ rfl (.inl ⟨HALLN.out,k5,b5,bn5,s5,i5,f5,c5,x5,rfl,HKE.out.step (bel1 _ _),bel_both HBE.out (bel1 _ _)⟩)
   exact ret_vec2 (fn:=Tryz.f168) (p:=10) (u:=11) rfl _ _ (w.heap.size+1) (by rfl) ((Below.heap_alloc _ _ _ (lt_of_block HRE.out)).trans HRE.out)
end Go.Proofs.YtakgmnafbjdccaaGreatDoor
