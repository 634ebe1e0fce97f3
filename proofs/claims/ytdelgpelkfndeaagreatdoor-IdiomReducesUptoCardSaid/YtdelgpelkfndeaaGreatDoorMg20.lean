/- The walks of rebusref06.Good and Place, rebusref21.Axis. Printed by gen_rrc.py. The plain law of whole numbers put together up to each place from the first one .. Conditions: as each theorem says. -/
import Derived.Test.YtdelgpelkfndeaaGreatDoorMgA
import Derived.Test.YtdelgpelkfndeaaGreatDoorMg19
import Derived.BigQuiet
import Derived.Test.YtdelgpelkfndeaaGreatDoorMg05
import Derived.Test.YtdelgpelkfndeaaGreatDoorMg02
import Derived.Test.YtdelgpelkfndeaaGreatDoorMg12
import Derived.Test.YtdelgpelkfndeaaGreatDoorMg11
import Derived.Test.YtdelgpelkfndeaaGreatDoorMg04
import Derived.Test.YtdelgpelkfndeaaGreatDoorMg06
import Derived.Test.YtdelgpelkfndeaaGreatDoorMg07
import Derived.IntWalk
import Derived.Test.YtdelgpelkfndeaaGreatDoorMg10
import Derived.Test.YtdelgpelkfndeaaGreatDoorMg17
import Derived.Test.YtdelgpelkfndeaaGreatDoorMg18
import Derived.Test.YtdelgpelkfndeaaGreatDoorMg09
import Derived.Deep.CutRange
import Derived.Test.YtdelgpelkfndeaaGreatDoorMg16
set_option maxRecDepth 100000
set_option maxHeartbeats 16000000
namespace Go.Proofs.YtdelgpelkfndeaaGreatDoor
open Go Go.RowKit Go.Proofs Fl
def plcN:List Nat->List Nat->Nat
 | _::s,x::r=>plcN s r+prodN s*x
 | _,_=>0
theorem Qjb:∀ (s r:List Nat),InSh s r->plcN s r < prodN s
 | [],[],_=>by show 0 < 1;decide
 | [],_::_,h=>by have:=h.1;simp at this
 | _::_,[],h=>by have:=h.1;simp at this
 | d::s,x::r,h=>by
  have h1:InSh s r:=⟨by have:=h.1;simpa using this,fun k hk hk2=>by have:=h.2 (k+1) (by simpa using hk) (by simpa using hk2);simpa using this⟩
  have h2:x < d:=by have:=h.2 0 (by simp) (by simp);simpa using this
  have h3:=Qjb s r h1
  show plcN s r+prodN s*x < d*prodN s
  have h4:prodN s*(x+1)<=prodN s*d:=Nat.mul_le_mul_left _ h2
  rw [Nat.mul_succ,Nat.mul_comm (prodN s) d] at h4
  omega
theorem Qny {s r:List Nat} (h:InSh s r) (i:Nat):InSh (s.drop i) (r.drop i):=by
 refine ⟨by rw [List.length_drop,List.length_drop,h.1],fun k hk hk2=>?_⟩
 rw [List.getElem_drop,List.getElem_drop]
 exact h.2 _ _ _
theorem Qla (s:List Nat):∀ i,prod1 (s.drop i)<=prod1 s:=by
 induction s with
 | nil=>intro i;simp
 | cons d s ih =>
  intro i
  cases i with
  | zero=>exact Nat.le_refl _
  | succ i =>
   have h1:=ih i
   have h2:prod1 s<=max 1 d*prod1 s:=Nat.le_mul_of_pos_left _ (by omega)
   show prod1 (s.drop i)<=max 1 d*prod1 s
   omega
theorem Qnz {s:List Nat}{i:Nat} (h:i < s.length):s.drop i=s[i]::s.drop (i+1):=List.drop_eq_getElem_cons h
theorem Qjc (v:Value) (s:List Nat) (n:Nat) (w:World) (hv:Reads1 w v (s.map natV)) (hok:OkSh s n) :
  Calls Tryz.prog 221 #[v] w fun e w'=>e= .returned (.bool true)/\w=w':=by
 have HP:=hD (Qfe v s 1048576 w hv (by have:=hok.1;omega))
 rw [QdE hok (by have:=hok.le;omega)] at HP
 dsimp only at HP
 clear hv hok
 go_enter Tryz.func221,Tryz.ntmps221
 go_wp2_with fail
 refine HP.out.mono ?_
 rintro e w2 ⟨rfl,rfl⟩
 go_wp2
 go_ret
 exact ⟨rfl,rfl⟩
theorem Qlb (sh ih:Sl) (s r:List Nat) (n:Nat) (w:World) (hs:Reads1 w (sv sh) (s.map natV)) (hr:Reads1 w (sv ih) (r.map natV)) (hok:OkSh s n) (hin:InSh s r) :
  Calls Tryz.prog 160 #[sv sh,sv ih] w fun e w'=>e= .returned (.int .i64 (plcN s r:Nat))/\Below w.heap.size w w':=by
 have HG:=hD (Qjc (sv sh) s n w hs hok)
 obtain ⟨A1,n1,c1,he1,hn1,hc1⟩:=Qbc hs
 obtain ⟨A2,n2,c2,he2,hn2,hc2⟩:=Qbc hr
 obtain ⟨hA,hn,hc⟩:=sh
 obtain ⟨iA,im,ic⟩:=ih
 injection he1 with e1 e2 e3
 injection he2 with e4 e5 e6
 subst e1;subst e2;subst e3;subst e4;subst e5;subst e6
 dsimp only at hn1 hn2 hc1 hc2
 obtain rfl:im=hn:=by rw [hn1,hn2];exact hin.1
 have HN:=hD hn1
 have HN2:=hD hn2
 have HC1:=hD hc1
 have HC2:=hD hc2
 have h8:im<=8:=by have:=hok.1;omega
 have hlen:((im:Int) != (im:Int))=false:=by simp
 have HPD:Hid (∀ i,prodN (s.drop i)<=1048576):=fun i=>by have h1:=QjP (s.drop i);have h2:=Qla s i;have h3:=hok.2.1;omega
 have HPC:Hid (∀ i,plcN (s.drop i) (r.drop i) < prodN (s.drop i)):=fun i=>Qjb _ _ (Qny hin i)
 have HIN:Hid (∀ k (h:k < r.length) (h2:k < s.length),r[k] < s[k]):=hin.2
 have HD0:Hid (plcN (s.drop 0) (r.drop 0)=plcN s r):=rfl
 have HPE:Hid (plcN (s.drop im) (r.drop im)=0/\prodN (s.drop im)=1):=by
  unfold Hid
  rw [hn1,List.drop_length]
  exact ⟨rfl,rfl⟩
 have HPS:Hid (∀ i (h:i < s.length) (h2:i < r.length),plcN (s.drop i) (r.drop i)=plcN (s.drop (i+1)) (r.drop (i+1))+prodN (s.drop (i+1))*r[i]/\prodN (s.drop i)=prodN (s.drop (i+1))*s[i]):=fun i h h2=>by
  rw [Qnz h,Qnz h2]
  exact ⟨rfl,Nat.mul_comm _ _⟩
 clear hs hr hok hin hn1 hn2 hc1 hc2
 dsimp only [sv] at HG ⊢
 go_enter Tryz.func160,Tryz.ntmps160
 go_wp2_with fail
 refine HG.out.mono ?_
 rintro e w2 ⟨rfl,rfl⟩
 clear HG
 go_wp2
 go_loopw [5,6,7] (fun nv pv iv wr=>∃ i:Nat,i<=im/\nv= .int .i64 (plcN (s.drop i) (r.drop i):Nat)/\pv= .int .i64 (prodN (s.drop i):Nat)/\iv= .int .i64 ((i:Int) - 1)/\Below w.heap.size w wr) (fun _ _ iv _=>(intOf iv+1).toNat)
 case atStart=>exact ⟨im,Nat.le_refl _,by rw [HPE.out.1];rfl,by rw [HPE.out.2];rfl,rfl,Below.refl _ _⟩
 case round =>
  obtain ⟨i,hi,rfl,rfl,rfl,hbl⟩:=hrel
  have HBL:=hD hbl
  clear hbl
  by_cases h0:0 < i
  ·obtain ⟨k,rfl⟩:∃ k,i=k+1:=⟨i - 1,by omega⟩
   have hki:((k+1:Nat):Int) - 1=(k:Int):=by omega
   have hks:k < s.length:=by have:=HN.out;omega
   have hkr:k < r.length:=by have:=HN2.out;omega
   obtain ⟨b1,o1,rfl,hce1⟩:=HC1.out k hks
   obtain ⟨b2,o2,rfl,hce2⟩:=HC2.out k hkr
   have ce1:wr.cell? ⟨b1,o1+k,none⟩=some (.int .i64 (s[k]:Nat)):=QaB HBL.out hce1
   have ce2:wr.cell? ⟨b2,o2+k,none⟩=some (.int .i64 (r[k]:Nat)):=QaB HBL.out hce2
   have hxd:=HIN.out k hkr hks
   obtain ⟨hp1,hp2⟩:=HPS.out k hks hkr
   have hq1:=HPC.out k
   have hq2:=HPD.out k
   have hq3:=HPC.out (k+1)
   have hq4:=HPD.out (k+1)
   clear hce1 hce2
   generalize s[k]=d at *
   generalize r[k]=x at *
   generalize hP:plcN (s.drop (k+1)) (r.drop (k+1))=P at *
   generalize hQ:prodN (s.drop (k+1))=Q at *
   generalize hP2:plcN (s.drop k) (r.drop k)=P2 at *
   generalize hQ2:prodN (s.drop k)=Q2 at *
   have HP2:=hD hP2
   have HQ2:=hD hQ2
   obtain ⟨y,hy⟩:∃ y,y=Q*x:=⟨_,rfl⟩
   rw [<- hy] at hp1
   have hm1:(Q:Int)*(x:Int)=(y:Int):=by rw [hy,Int.natCast_mul]
   have hm2:(Q:Int)*(d:Int)=(Q2:Int):=by rw [hp2,Int.natCast_mul]
   have hm3:(P:Int)+(y:Int)=(P2:Int):=by omega
   have wy:IntKind.i64.wrap (y:Int)=(y:Int):=IntWalk.i64_in _ (by omega)
   have wq:IntKind.i64.wrap (Q2:Int)=(Q2:Int):=IntWalk.i64_in _ (by omega)
   have wp:IntKind.i64.wrap (P2:Int)=(P2:Int):=IntWalk.i64_in _ (by omega)
   have hx0:¬ (x:Int) < 0:=by omega
   have hx1:¬ (x:Int)>=(d:Int):=by omega
   have hx2:¬ (d:Int)<=(x:Int):=by omega
   have hx3:¬ d<=x:=by omega
   have hk0:(k:Int)>=0:=by omega
   have hk1:(k:Int) < (im:Int):=by omega
   have hk2:k < im:=by omega
   clear hP hQ hP2 hQ2 hy hp1 hp2
   rw [hki]
   clear hki
   go_wp2
   go_quiet (fail)
   go_wp2
   go_roundw
   case rel=>exact ⟨k,by omega,by rw [HP2.out],by rw [HQ2.out],by go_num,Qao HBL.out _⟩
   case measure=>simp [intOf]
  ·obtain rfl:i=0:=by omega
   have hg:¬ ((0:Nat):Int) - 1>=0:=by omega
   rw [HD0.out]
   go_wp2
   go_ret
   exact ⟨rfl,HBL.out⟩
def sF (x:Nat->Int):Nat->Int
 | 0=>0
 | i+1=>sF x i+max (x i) (- x i)
def rz (q:Int) (x:Nat->Int) (i:Nat):Nat->Int
 | 0=>x i
 | m+1=>if q=1 then x (i - 1 - m)+rz q x i m else if q=2 then x (i - 1 - m) - rz q x i m else if q=5 then max (x (i - 1 - m)) (rz q x i m) else min (x (i - 1 - m)) (rz q x i m)
def gok (d cl:Nat->Nat):Nat->Bool
 | 0=>true
 | j+1=>gok d cl j&&(d j==0)&&(cl j != 2)&&(cl j==cl 0)
theorem Qkg (a b:Nat):((a:Int)==(b:Int))=(a==b):=by
 by_cases h:a=b
 ·subst h;simp
 ·have h2:¬ (a:Int)=(b:Int):=by omega
  rw [beq_eq_false_iff_ne.2 h,beq_eq_false_iff_ne.2 h2]
def num0:PA->Nat
 | .nums _ l=>l.getD 0 0
 | _=>0
def chr0:PA->Int
 | .chars _ l=>l.getD 0 0
 | _=>0
def gokA (l:List PA):Bool:=gok (fun j=>(l.getD j default).shape.length) (fun j=>(l.getD j default).fill) l.length
def gatA (s:List Nat) (l:List PA):PA :=
 if gokA l then (if (l.getD 0 default).fill=0 then .nums s (l.map num0) else .chars s (l.map chr0)) else .boxes s l
theorem QnA {d cl:Nat->Nat}:∀ {m:Nat},gok d cl m=true->∀ j,j < m->d j=0/\cl j≠2/\cl j=cl 0
 | 0,_,j,hj=>absurd hj (Nat.not_lt_zero _)
 | m+1,h,j,hj=>by
  unfold gok at h
  simp only [Bool.and_eq_true,beq_iff_eq,bne_iff_ne] at h
  obtain ⟨⟨⟨h1,h2⟩,h3⟩,h4⟩:=h
  rcases Nat.lt_or_ge j m with h5 | h5
  ·exact QnA h1 j h5
  ·obtain rfl:j=m:=by omega
   exact ⟨h2,h3,h4⟩
theorem QnB {l:List PA}{j:Nat} (hj:j < l.length):l.getD j default=l[j]:=by simp [List.getD,hj]
theorem Qp0 (a:PA):a.fill<=2:=by
 cases a with
 | nums s l=>exact Nat.zero_le _
 | chars s l=>exact Nat.le_succ _
 | boxes s l=>exact Nat.le_refl _
theorem Qej {α:Type} (l:List PA) (f:PA->α):(List.range l.length).map (fun j=>f (l.getD j default))=l.map f:=by
 apply List.ext_getElem
 ·simp
 ·intro i h1 h2
  have hi:i < l.length:=by simpa using h2
  simp [List.getD,hi]
theorem Qkh {d:Nat}{a:PA} (h:GoodA d a) (h0:a.shape.length=0):a.len=1:=by
 have h1:=h.sh.2.2.2
 have h2:a.shape=[]:=List.eq_nil_of_length_eq_zero h0
 rw [h2] at h1
 exact h1.symm
theorem QnC {d:Nat}{l:List PA} (hl:∀ a∈l,GoodA d a):(∀ a∈l,a.shape.length=0->a.fill≠2->a.len=1)/\∀ a∈l,a.shape.length<=1048576 :=
 ⟨fun a ha h0 _=>Qkh (hl a ha) h0,fun a ha=>by have:=(hl a ha).sh.2.1;omega⟩
theorem Qh6 {n i:Nat} (hi:i < n):ixP n i < n:=by rw [QdN hi];exact hi
theorem Qc6 {d:Nat}{a:PA} (h:GoodA (d+1) a) (hd:0 < d){i:Nat} (hi:i < a.len):GoodA d (Qak a i):=by
 cases a with
 | nums s l =>
  have h1:=QaO h.nums1 (i:=i) (Qh6 hi)
  exact GoodA.up hd _ h1
 | chars s l =>
  have h1:=QaO h.chars1 (i:=i) (Qh6 hi)
  exact GoodA.up hd _ h1
 | boxes s l=>exact QbY h (i:=i) (Qh6 hi)
theorem Qfx {fn:Func}{p u:Tmp} (h:fn.results=#[.cell p 63,.tmp u]) (tmps:Array Value) (w:World) (G:Nat){e:TypeId}{a0 a1 a2 a3:Value}
  (hp:tmps.getD p undef= .pointer (some ⟨G,0,none⟩)) (hg:w.heap[G]?=some (.cells #[a0,a1,a2,a3] e)) :
  (results fn tmps).run Tryz.prog w= .ok (.tuple #[.agg #[a0,a1,a2,a3],tmps.getD u undef]) w:=by
 rw [results_cell_tmp h,hp]
 have:=run_loadVar_row (P:=Tryz.prog) w G e 63 _ (0,0) _ hg Tryz.underlying63 rfl QhY
 simp [asAddr,Result.andThen,this]
theorem QnD (f:Int) (hk:Qaz f=true) (a b:Nat) (ha:TF a) (hb:TF b) (c1 c2:Int) (y1 y2:Sl) (W:World) :
  Calls Tryz.prog 74 #[.int .i64 f,itV 0 a c1 y1,itV 0 b c2 y2] W fun e w'=>e= .returned (.tuple #[itV 0 (oneP pwP f a b).1 0 nilS,.int .i64 (oneP pwP f a b).2])/\Below W.heap.size W w':=by
 have HO:Hid (∀ W',Calls Tryz.prog 122 #[.int .i64 f,.float .f64 a,.float .f64 b] W' fun e w'=>e= .returned (.tuple #[.float .f64 (oneP pwP f a b).1,.int .i64 (oneP pwP f a b).2])/\Below W'.heap.size W' w'):=fun W'=>(QoK QrC f hk a b ha hb W').mono fun e w' ⟨h1,h2⟩=>⟨h1,h2▸Below.refl _ _⟩
 generalize oneP pwP f a b=r at HO
 obtain ⟨x,E⟩:=r
 dsimp only at HO ⊢
 have HA:=hD (QbC W 0 a c1 y1)
 have HB:=hD (QbC (W.alloc (itO 0 a c1 y1)) 0 b c2 y2)
 have HR:=hD (heap_alloc_new ((W.alloc (itO 0 a c1 y1)).alloc (itO 0 b c2 y2)) (itO 0 0 0 nilS))
 clear ha hb
 go_enter Tryz.func74,Tryz.ntmps74
 go_wp2_with fail
 refine (HO.out _).mono ?_
 rintro e w1 ⟨rfl,hb1⟩
 have hr:w1.heap[W.heap.size+2]?=some (itO 0 0 0 nilS):=by
  have h:=Qar hb1
  simpa using h
 have HR1:=hD hr
 have HB1:Hid (Below W.heap.size W w1):=Qaa (Qaa (bel2 W _ _) (bel1 _ _)) hb1
 obtain ⟨⟨z0,z1,z2,z3⟩,zz⟩:=block4 hr
 have h0:=heap_setCell_same w1 (W.heap.size+2) 0 _ _ (.int .i64 0) hr
 rw [show (#[.int .i64 0,.float .f64 0,.int .i32 0,.slice nilS.1 nilS.2.1 nilS.2.2]:Array Value).setIfInBounds 0 (.int .i64 0)=#[.int .i64 0,.float .f64 0,.int .i32 0,.slice nilS.1 nilS.2.1 nilS.2.2] by simp] at h0
 obtain ⟨⟨_,v1,_,_⟩,vz⟩:=block4 h0
 have hst:=fun md=>QaG v1 (vz 1) .f64 x md
 have HRE:=hD (Qc5 HR1.out (.int .i64 0) (.float .f64 x) (.int .i32 0) (.slice none 0 0))
 have HBE:=hD (Qei HB1.out (Nat.le_add_right _ 2) (.int .i64 0) (.float .f64 x) (.int .i32 0) (.slice none 0 0))
 clear hb1 hr h0 v1 vz
 go_wp2
 refine bodyPost_ret (v := .tuple #[itV 0 x 0 nilS,.int .i64 E]) ?_ rfl ⟨rfl,HBE.out⟩
 exact Qfx (fn:=Tryz.f74) (p:=6) (u:=7) rfl _ _ (W.heap.size+2) (by rfl) HRE.out
structure It2 (w:World) (b1 b2:Nat) (k1:Int) (n1:Nat) (c1:Int) (y1:Sl) (k2:Int) (n2:Nat) (c2:Int) (y2:Sl):Prop where
 one:At4 w b1 0 k1 n1 c1 y1
 two:At4 w b2 0 k2 n2 c2 y2
abbrev itE (k:Int) (n:Nat) (c:Int) (y:Value):Obj := .cells #[.int .i64 k,.float .f64 n,.int .i32 c,y] 63
theorem Qqt (w:World) (k:Int) (x n:Nat) (c:Int) (y:Value) (o:Obj) (md:Mode) :
  (store ⟨w.heap.size,1,none⟩ (.float .f64 n) md).run Tryz.prog ((w.alloc (itE k x c y)).alloc o).drew= .ok () ((w.alloc (itE k n c y)).alloc o).drew:=by
 have hg:((w.alloc (itE k x c y)).alloc o).drew.heap[w.heap.size]?=some (itE k x c y):=by
  show ((w.alloc (itE k x c y)).alloc o).heap[w.heap.size]?=_
  rw [(bel1 _ o).block _ (by simp)]
  exact heap_alloc_new w _
 have hc:((w.alloc (itE k x c y)).alloc o).drew.cell? ⟨w.heap.size,1,none⟩=some (.float .f64 x):=by
  rw [cell_of_row _ w.heap.size 1 _ _ (0,0) hg];rfl
 have hz:((w.alloc (itE k x c y)).alloc o).drew.frozen? ⟨w.heap.size,1,none⟩=false:=frozen_of_row _ _ _ _ _ hg
 rw [QaG hc hz .f64 n md,World.setCell_drew,World.setCell_alloc_past _ _ _ _ (by simp),World.setCell_alloc_at _ _ _ _ _ rfl]
 rfl
theorem Qqu (w:World) (k:Int) (x n:Nat) (c:Int) (y:Value) (o:Obj) (md:Mode) :
  (store ⟨w.heap.size+1,1,none⟩ (.float .f64 n) md).run Tryz.prog ((w.alloc o).alloc (itE k x c y)).drew= .ok () ((w.alloc o).alloc (itE k n c y)).drew:=by
 have e:(w.alloc o).heap.size=w.heap.size+1:=by simp
 have hg:((w.alloc o).alloc (itE k x c y)).drew.heap[w.heap.size+1]?=some (itE k x c y):=by
  have h:=heap_alloc_new (w.alloc o) (itE k x c y)
  rw [e] at h
  exact h
 have hc:((w.alloc o).alloc (itE k x c y)).drew.cell? ⟨w.heap.size+1,1,none⟩=some (.float .f64 x):=by
  rw [cell_of_row _ (w.heap.size+1) 1 _ _ (0,0) hg];rfl
 have hz:((w.alloc o).alloc (itE k x c y)).drew.frozen? ⟨w.heap.size+1,1,none⟩=false:=frozen_of_row _ _ _ _ _ hg
 rw [QaG hc hz .f64 n md,World.setCell_drew,World.setCell_alloc_at _ _ _ _ _ e.symm]
 rfl
theorem Qr3 {w:World}{B:Nat}{e:TypeId}{v x:Value} (h:Own1 w B e v ([]++[x])):∃ G o c,v= .slice (some ⟨G,o,none⟩) 1 c/\w.cell? ⟨G,o,none⟩=some x:=by
 rcases h.reads with ⟨_,_,_,h0⟩ | ⟨b,o,n,c,rfl,hn,hc⟩
 ·cases h0
 ·have hn1:n=1:=by simpa using hn
  subst hn1
  exact ⟨b,o,c,rfl,by have:=hc 0 (by simp);simpa using this⟩
def Qr4 (w:World) (k1:Int) (n1:Nat) (c1:Int) (y1:Sl) (k2:Int) (n2:Nat) (c2:Int) (y2:Sl) (x y:Value) (wx:World):Prop :=
 ∃ V1 V2,x= .pointer (some ⟨V1,0,none⟩)/\y= .pointer (some ⟨V2,0,none⟩)/\wx.heap[V1]?=some (itO k1 n1 c1 y1)/\wx.heap[V2]?=some (itO k2 n2 c2 y2)/\Below w.heap.size w wx
theorem QnE (w:World) (k1:Int) (n1:Nat) (c1:Int) (y1:Sl) (k2:Int) (n2:Nat) (c2:Int) (y2:Sl):Qr4 w k1 n1 c1 y1 k2 n2 c2 y2 (.pointer (some ⟨w.heap.size,0,none⟩)) (.pointer (some ⟨w.heap.size+1,0,none⟩)) ((w.alloc (itO k1 n1 c1 y1)).alloc (itO k2 n2 c2 y2)).drew:=by
 have e:(w.alloc (itO k1 n1 c1 y1)).heap.size=w.heap.size+1:=by simp
 refine ⟨_,_,rfl,rfl,?_,?_,(bel2 w _ _).drew⟩
 ·show ((w.alloc (itO k1 n1 c1 y1)).alloc (itO k2 n2 c2 y2)).heap[w.heap.size]?=_
  rw [(bel1 _ _).block _ (by simp)]
  exact heap_alloc_new w _
 ·have h:=heap_alloc_new (w.alloc (itO k1 n1 c1 y1)) (itO k2 n2 c2 y2)
  rw [e] at h
  exact h
theorem Qr5 (w:World) (k1:Int) (n1:Nat) (c1:Int) (y1:Sl) (k2:Int) (n2:Nat) (c2:Int) (y2:Sl):Qr4 w k1 n1 c1 y1 k2 n2 c2 y2 (.pointer (some ⟨w.heap.size+1,0,none⟩)) (.pointer (some ⟨w.heap.size,0,none⟩)) ((w.alloc (itO k2 n2 c2 y2)).alloc (itO k1 n1 c1 y1)).drew:=by
 obtain ⟨V1,V2,h1,h2,h3,h4,h5⟩:=QnE w k2 n2 c2 y2 k1 n1 c1 y1
 exact ⟨V2,V1,h2,h1,h4,h3,h5⟩
def RapC (f k1 k2 c1 c2:Int) (v:Bool):Prop :=
 ((f=13/\v=false)\/(f=16/\v=true))/\((k1=0/\k2=1)\/(k1=1/\k2=0)\/(k1=1/\k2=1/\(c1==c2)=false))\/((f=13/\v=true)\/(f=16/\v=false))/\(k1=1/\k2=1/\c1=c2)
theorem Qbk (f k1 k2:Int) (v:Bool) (b1 b2:Nat) (n1:Nat) (c1:Int) (y1:Sl) (n2:Nat) (c2:Int) (y2:Sl) (hc:RapC f k1 k2 c1 c2 v) (w:World) (hs:It2 w b1 b2 k1 n1 c1 y1 k2 n2 c2 y2) (t1:TF n1) (t2:TF n2) :
  Calls Tryz.prog 123 #[.int .i64 f,.slice (some ⟨b1,0,none⟩) 1 1,.int .i64 k1,.slice (some ⟨b2,0,none⟩) 1 1,.int .i64 k2] w fun e w'=>∃ G o c,e= .returned (.tuple #[.slice (some ⟨G,o,none⟩) 1 c,.int .i64 0])/\w'.cell? ⟨G,o,none⟩=some (.bool v)/\Below w.heap.size w w':=by
 have HL:=hD (fun W=>QeL 1 1 1 rfl W)
 have HO:=hD (fun (h1:11<=f) (h2:f<=16) W=>Qhq f h1 h2 n1 n2 t1 t2 W)
 have HS:=hD hs
 have f1:=fun o md=>Qqt w k1 0 n1 0 (.slice none 0 0) o md
 have f2:=fun o md=>Qqu w k2 0 n2 0 (.slice none 0 0) o md
 have f3:=fun o md=>Qqu w k1 0 n1 0 (.slice none 0 0) o md
 have f4:=fun o md=>Qqt w k2 0 n2 0 (.slice none 0 0) o md
 generalize relB f n1 n2=rb at HO
 clear hs t1 t2
 rcases hc with ⟨⟨rfl,rfl⟩ | ⟨rfl,rfl⟩,⟨rfl,rfl⟩ | ⟨rfl,rfl⟩ | ⟨rfl,rfl,hne⟩⟩ | ⟨⟨rfl,rfl⟩ | ⟨rfl,rfl⟩,rfl,rfl,rfl⟩
 all_goals
  go_enter Tryz.func123,Tryz.ntmps123
  go_wp2_with fail
  refine (HL.out _).mono ?_
  rintro e w1 ⟨rfl,rfl⟩
  go_wp2_with fail
  refine wp_loop_rounds 2 ?_
  rw [rounds_succ]
  go_wp2_with fail
  go_cut [15,16] from 54 to 110 (fun x y wx=>Qr4 w _ n1 c1 y1 _ n2 _ y2 x y wx)
  case first =>
   obtain ⟨a0,a1,a2,a3⟩:=HS.out.one
   obtain ⟨e0,e1,e2,e3⟩:=HS.out.two
   dsimp only [sv] at a3 e3
   have r0:=fun o o'=>QaE a0 o o'
   have r0':=fun o=>Qab a0 o
   have r1:=fun o o'=>QaE a1 o o'
   have r1':=fun o=>Qab a1 o
   have r2:=fun o o'=>QaE a2 o o'
   have r2':=fun o=>Qab a2 o
   have r3:=fun o o'=>QaE a3 o o'
   have r3':=fun o=>Qab a3 o
   have s0:=fun o o'=>QaE e0 o o'
   have s0':=fun o=>Qab e0 o
   have s1:=fun o o'=>QaE e1 o o'
   have s1':=fun o=>Qab e1 o
   have s2:=fun o o'=>QaE e2 o o'
   have s2':=fun o=>Qab e2 o
   have s3:=fun o o'=>QaE e3 o o'
   have s3':=fun o=>Qab e3 o
   go_region
   all_goals
    go_wp2
    go_meet
    first
     | with_reducible exact QnE w _ _ _ _ _ _ _ _
     | with_reducible exact Qr5 w _ _ _ _ _ _ _ _
  obtain ⟨V1,V2,rfl,rfl,hv1,hv2,hb⟩:=hcut
  have HB:=hD hb
  obtain ⟨⟨p0,p1,p2,p3⟩,pz⟩:=block4 hv1
  obtain ⟨⟨q0,q1,q2,q3⟩,qz⟩:=block4 hv2
  clear hb HS hv1 hv2 f1 f2 f3 f4
  go_wp2_with fail
  refine (HO.out (by decide) (by decide) _).mono ?_
  rintro e w2 ⟨rfl,rfl⟩
  obtain ⟨w4,hw4⟩:∃ w4,w4=wc:=⟨_,rfl⟩
  subst hw4
  go_wp2_with (at_builtin;refine QaW rfl (.tmp 107) (.tmp 109) 72 4 rfl Tryz.underlying72 (.bool false) 1 QbW rfl w.heap.size (.slice none 0 0) [] rfl (Own1.nil _ _ _) (.bool _) rfl w4.heap.size rfl rfl (by decide) (by decide) HB.out.size ?_;intro v' w5 hv' hb';(obtain ⟨G,o,c,rfl,hG⟩:=Qr3 hv');have HB5:=hD (hb' w HB.out);have HG:=hD hG;clear hb' hv' hG)
  rw [rounds_succ]
  go_wp2
  go_ret2
  exact ⟨G,o,c,rfl,HG.out,HB5.out⟩
def OneB (w:World) (v:Bool) (e:Ending) (w':World):Prop:=∃ G o c,e= .returned (.tuple #[.slice (some ⟨G,o,none⟩) 1 c,.int .i64 0])/\w'.cell? ⟨G,o,none⟩=some (.bool v)/\Below w.heap.size w w'
theorem Qbl (f k1 k2:Int) (n1 n2:Nat) (c1 c2:Int) (y1 y2:Sl) (v:Bool) (hf:(f != 13)=false\/((f != 13)=true/\(f != 16)=false)) (hk:(k1==0)=false\/((k1==0)=true/\(k2==0)=false))
  (hA:∀ (W:World) (b1 b2:Nat),It2 W b1 b2 k1 n1 c1 y1 k2 n2 c2 y2->Calls Tryz.prog 123 #[.int .i64 f,.slice (some ⟨b1,0,none⟩) 1 1,.int .i64 k1,.slice (some ⟨b2,0,none⟩) 1 1,.int .i64 k2] W (OneB W v)) (W:World) :
  Calls Tryz.prog 74 #[.int .i64 f,itV k1 n1 c1 y1,itV k2 n2 c2 y2] W fun e w'=>e= .returned (.tuple #[itV 0 (Qai v) 0 nilS,.int .i64 0])/\Below W.heap.size W w':=by
 obtain ⟨w3,hw3⟩:∃ w3,w3=((W.alloc (itO k1 n1 c1 y1)).alloc (itO k2 n2 c2 y2)).alloc (itO 0 0 0 nilS):=⟨_,rfl⟩
 obtain ⟨w5,hw5⟩:∃ w5,w5=(w3.alloc (itO k1 n1 c1 y1)).alloc (itO k2 n2 c2 y2):=⟨_,rfl⟩
 have hz3:w3.heap.size=W.heap.size+3:=by rw [hw3];simp
 have hB3:Below W.heap.size W w3:=by rw [hw3];exact bel3 W _ _ _
 have hR3:w3.heap[W.heap.size+2]?=some (itO 0 0 0 nilS):=by
  have h:=heap_alloc_new ((W.alloc (itO k1 n1 c1 y1)).alloc (itO k2 n2 c2 y2)) (itO 0 0 0 nilS)
  rw [<- hw3,show ((W.alloc (itO k1 n1 c1 y1)).alloc (itO k2 n2 c2 y2)).heap.size=W.heap.size+2 by simp] at h
  exact h
 have hI:It2 w5 (W.heap.size+3) (W.heap.size+3+1) k1 n1 c1 y1 k2 n2 c2 y2:=by
  have h1:=(QbC w3 k1 n1 c1 y1).of (w':=w5) fun j=>by rw [hw5];exact (bel1 _ _).cell (p:=⟨w3.heap.size,j,none⟩) (by simp)
  have h2:=QbC (w3.alloc (itO k1 n1 c1 y1)) k2 n2 c2 y2
  rw [<- hw5,show (w3.alloc (itO k1 n1 c1 y1)).heap.size=w3.heap.size+1 by simp] at h2
  rw [hz3] at h1 h2
  exact ⟨h1,h2⟩
 have HA:=hD (hA w5 _ _ hI)
 have HB5:Hid (Below W.heap.size W w5):=by unfold Hid;rw [hw5];exact Qaa hB3 (bel2 w3 _ _)
 have HR5:Hid (w5.heap[W.heap.size+2]?=some (itO 0 0 0 nilS)):=by unfold Hid;rw [hw5,(bel2 w3 _ _).block _ (lt_blk hR3)];exact hR3
 have HW5:Hid (w5=((((W.alloc (itO k1 n1 c1 y1)).alloc (itO k2 n2 c2 y2)).alloc (itO 0 0 0 nilS)).alloc (itO k1 n1 c1 y1)).alloc (itO k2 n2 c2 y2)):=by unfold Hid;rw [hw5,hw3]
 unfold OneB at HA
 clear hA hw3 hw5 hz3 hB3 hR3 hI
 rcases hf with f1 | ⟨f1,f2⟩
 all_goals
  rcases hk with e1 | ⟨e1,e2⟩
  all_goals
   go_enter Tryz.func74,Tryz.ntmps74
   go_wp2_with fail
   rw [<- HW5.out]
   refine HA.out.mono ?_
   rintro e w1 ⟨G,o,c,rfl,hG,hb1⟩
   have hr:w1.heap[W.heap.size+2]?=some (itO 0 0 0 nilS):=by rw [hb1.block _ (lt_blk HR5.out)];exact HR5.out
   have HR1:=hD hr
   have HB1:=hD (Qaa HB5.out hb1)
   obtain ⟨⟨z0,z1,z2,z3⟩,zz⟩:=block4 hr
   have h0:=heap_setCell_same w1 (W.heap.size+2) 0 _ _ (.int .i64 0) hr
   rw [show (#[.int .i64 0,.float .f64 0,.int .i32 0,.slice nilS.1 nilS.2.1 nilS.2.2]:Array Value).setIfInBounds 0 (.int .i64 0)=#[.int .i64 0,.float .f64 0,.int .i32 0,.slice nilS.1 nilS.2.1 nilS.2.2] by simp] at h0
   obtain ⟨⟨_,v1,_,_⟩,vz⟩:=block4 h0
   cases v
   ·have hst:=fun md=>QaG v1 (vz 1) .f64 0 md
    have HRE:=hD (Qc5 HR1.out (.int .i64 0) (.float .f64 0) (.int .i32 0) (.slice none 0 0))
    have HBE:=hD (Qei HB1.out (Nat.le_add_right _ 2) (.int .i64 0) (.float .f64 0) (.int .i32 0) (.slice none 0 0))
    clear hb1 hr h0 v1 vz
    go_wp2
    refine bodyPost_ret (v := .tuple #[itV 0 0 0 nilS,.int .i64 0]) ?_ rfl ⟨rfl,HBE.out⟩
    exact Qfx (fn:=Tryz.f74) (p:=6) (u:=7) rfl _ _ (W.heap.size+2) (by rfl) HRE.out
   ·have hst:=fun md=>QaG v1 (vz 1) .f64 4607182418800017408 md
    have HRE:=hD (Qc5 HR1.out (.int .i64 0) (.float .f64 4607182418800017408) (.int .i32 0) (.slice none 0 0))
    have HBE:=hD (Qei HB1.out (Nat.le_add_right _ 2) (.int .i64 0) (.float .f64 4607182418800017408) (.int .i32 0) (.slice none 0 0))
    clear hb1 hr h0 v1 vz
    go_wp2
    refine bodyPost_ret (v := .tuple #[itV 0 4607182418800017408 0 nilS,.int .i64 0]) ?_ rfl ⟨rfl,HBE.out⟩
    exact Qfx (fn:=Tryz.f74) (p:=6) (u:=7) rfl _ _ (W.heap.size+2) (by rfl) HRE.out
theorem Qes (f:Int) (hf:f=13\/f=16) (H:Nat->Prop) (p q:V8) (m n N:Nat) (F G:Nat->Int) (w:World) (hH:∀ b,H b->b < w.heap.size) (hL:lenP m n=some N) (hm:m<=1000000) (hn:n<=1000000)
  (hP:ClsV w p 1 m) (hQ:ClsV w q 1 n)
  (hCP:∀ W,Below w.heap.size w W->∀ j,j < m->Calls Tryz.prog 93 #[p.v,.int .i64 (j:Nat)] W fun e w'=>e= .returned (.int .i32 (F j))/\Below W.heap.size W w') (hCQ:∀ W,Below w.heap.size w W->∀ j,j < n->Calls Tryz.prog 93 #[q.v,.int .i64 (j:Nat)] W fun e w'=>e= .returned (.int .i32 (G j))/\Below W.heap.size W w') :
  Calls Tryz.prog 61 #[.int .i64 f,.int .i64 (N:Int),p.v,q.v] w (Qde H w (fun u W=>NumV u 1 N (fun c=>Qai (decide (F (ixP m c)=G (ixP n c))==decide (f=13))) W)):=by
 have hNb:N<=1000000:=Qfb hL hm hn
 have HP:=hD hP
 have HQ:=hD hQ
 have HKP:=hD hCP
 have HKQ:=hD hCQ
 clear hCP hCQ
 have HH:=hD hH
 have HIX:=hD (fun c (hc:c < N)=>Qf2 hL hc)
 obtain ⟨R,hR⟩:∃ R:Nat->Bool,R=fun c=>decide (F (ixP m c)=G (ixP n c))==decide (f=13):=⟨_,rfl⟩
 have HRR:Hid (∀ c,R c=(decide (F (ixP m c)=G (ixP n c))==decide (f=13))):=fun c=>by rw [hR]
 rw [show (fun c=>Qai (decide (F (ixP m c)=G (ixP n c))==decide (f=13)))=fun c=>Qai (R c) by rw [hR]]
 clear hR
 have hmk:=run_make_row' (P:=Tryz.prog) 72 4 (.bool false) 1 Tryz.underlying72 QbW rfl .i64 .i64 N (by omega) (by omega)
 obtain ⟨ff,hff⟩:∃ ff:Nat->Value,ff=fun c => .bool (R c):=⟨_,rfl⟩
 have HFF:Hid (∀ c,ff c= .bool (R c)):=fun c=>by rw [hff]
 clear hff
 have HA0:=hD (Ar2.new w p q 4 ff (.bool false) N (by unfold maxLen;omega))
 clear hP hQ hH hL
 rcases hf with rfl | rfl
 all_goals
  go_enter Tryz.func61,Tryz.ntmps61
  go_wp2
  go_loopw [22] (fun j wr=>∃ c:Nat,c<=N/\j= .int .i64 c/\Ar2 w p q 4 ff (.bool false) N c wr) (fun j _=>N - (intOf j).toNat)
  case atStart=>exact ⟨0,Nat.zero_le _,rfl,HA0.out⟩
  case round =>
   clear HA0
   obtain ⟨c,hc,rfl,har⟩:=hrel
   have HAR:=hD har
   clear har
   by_cases hlt:c < N
   ·obtain ⟨hi1,hi2⟩:=HIX.out c hlt
    have HCP:=hD (fun W (hs:Ar2 w p q 4 ff (.bool false) N c W)=>HP.out.cls W hs.st.bel)
    have HCQ:=hD (fun W (hs:Ar2 w p q 4 ff (.bool false) N c W)=>HQ.out.cls W hs.st.bel)
    have HFC:=hD ((HFF.out c).trans (congrArg Value.bool (HRR.out c)))
    have HAP:=hD (fun W (hs:Ar2 w p q 4 ff (.bool false) N c W)=>QgW p m c W (fun W' hb=>HP.out.len W' (Qaa hs.st.bel hb)))
    have HAQ:=hD (fun W (hs:Ar2 w p q 4 ff (.bool false) N c W)=>QgW q n c W (fun W' hb=>HQ.out.len W' (Qaa hs.st.bel hb)))
    have HNP:=hD (fun W (hs:Ar2 w p q 4 ff (.bool false) N c W)=>HKP.out W hs.st.bel (ixP m c) hi1)
    have HNQ:=hD (fun W (hs:Ar2 w p q 4 ff (.bool false) N c W)=>HKQ.out W hs.st.bel (ixP n c) hi2)
    clear hi1 hi2
    generalize F (ixP m c)=xa at *
    generalize G (ixP n c)=xb at *
    generalize ixP m c=ia at *
    generalize ixP n c=ib at *
    go_upto_block 1 with fail
    go_cut [11,12] from 24 to 43 (fun x y wx=>x= .int .i64 (c:Int)/\y= .bool (decide (xa=xb))/\Ar2 w p q 4 ff (.bool false) N c wx)
    case first =>
     go_wp2_with fail
     have hs0:=HAR.out.dr
     have hs00:=HAR.out
     have hss0:=hs0.st
     have hss00:=hs00.st
     have hrc:=HAR.out.fill.cell hlt
     have hrf:=HAR.out.fill.frozen c
     have hrz:w.heap.size+3 < wr.heap.size:=HAR.out.fill.low.2
     go_region_held3 (fun W=>St2C w W p q/\St2 w W p q)
      (first | with_reducible assumption | (with_reducible (refine QfQ ?_);repeat (first | with_reducible assumption | with_reducible refine St2.dr ?_ | (with_reducible refine St2.put ?_ (by first | assumption | omega | (simp;omega)) _))))
      (first
       | (go_at_call 44;(with_reducible refine (HCP.out _ ?_).mono ?_);exact Ar2.self (by repeat (first | with_reducible assumption | with_reducible refine Ar2.dr ?_));rintro e w1 ⟨rfl,hb1⟩;obtain ⟨hc1,hf1⟩:=bcell2 hb1;have hz1:=hb1.size;have hst1:Ar2 w p q 4 ff (.bool false) N c w1:=Ar2.step (by repeat (first | with_reducible assumption | with_reducible refine Ar2.dr ?_)) hb1;have hss1:St2 w w1 p q:=hst1.st;have hcr1:=hst1.fill.cell hlt;have hfr1:=hst1.fill.frozen c;clear hb1)
       | (go_at_call 44;(with_reducible refine (HCQ.out _ ?_).mono ?_);exact Ar2.self (by repeat (first | with_reducible assumption | with_reducible refine Ar2.dr ?_));rintro e w2 ⟨rfl,hb2⟩;obtain ⟨hc2,hf2⟩:=bcell2 hb2;have hz2:=hb2.size;have hst2:Ar2 w p q 4 ff (.bool false) N c w2:=Ar2.step (by repeat (first | with_reducible assumption | with_reducible refine Ar2.dr ?_)) hb2;have hss2:St2 w w2 p q:=hst2.st;have hcr2:=hst2.fill.cell hlt;have hfr2:=hst2.fill.frozen c;clear hb2)
       | (go_at_call 113;(with_reducible refine (HAP.out _ ?_).mono ?_);exact Ar2.self (by repeat (first | with_reducible assumption | with_reducible refine Ar2.dr ?_));rintro e w3 ⟨rfl,hb3⟩;obtain ⟨hc3,hf3⟩:=bcell2 hb3;have hz3:=hb3.size;have hst3:Ar2 w p q 4 ff (.bool false) N c w3:=Ar2.step (by repeat (first | with_reducible assumption | with_reducible refine Ar2.dr ?_)) hb3;have hss3:St2 w w3 p q:=hst3.st;have hcr3:=hst3.fill.cell hlt;have hfr3:=hst3.fill.frozen c;clear hb3)
       | (go_at_call 113;(with_reducible refine (HAQ.out _ ?_).mono ?_);exact Ar2.self (by repeat (first | with_reducible assumption | with_reducible refine Ar2.dr ?_));rintro e w4 ⟨rfl,hb4⟩;obtain ⟨hc4,hf4⟩:=bcell2 hb4;have hz4:=hb4.size;have hst4:Ar2 w p q 4 ff (.bool false) N c w4:=Ar2.step (by repeat (first | with_reducible assumption | with_reducible refine Ar2.dr ?_)) hb4;have hss4:St2 w w4 p q:=hst4.st;have hcr4:=hst4.fill.cell hlt;have hfr4:=hst4.fill.frozen c;clear hb4)
       | (go_at_call 93;(with_reducible refine (HNP.out _ ?_).mono ?_);exact Ar2.self (by repeat (first | with_reducible assumption | with_reducible refine Ar2.dr ?_));rintro e w5 ⟨rfl,hb5⟩;obtain ⟨hc5,hf5⟩:=bcell2 hb5;have hz5:=hb5.size;have hst5:Ar2 w p q 4 ff (.bool false) N c w5:=Ar2.step (by repeat (first | with_reducible assumption | with_reducible refine Ar2.dr ?_)) hb5;have hss5:St2 w w5 p q:=hst5.st;have hcr5:=hst5.fill.cell hlt;have hfr5:=hst5.fill.frozen c;clear hb5)
       | (go_at_call 93;(with_reducible refine (HNQ.out _ ?_).mono ?_);exact Ar2.self (by repeat (first | with_reducible assumption | with_reducible refine Ar2.dr ?_));rintro e w6 ⟨rfl,hb6⟩;obtain ⟨hc6,hf6⟩:=bcell2 hb6;have hz6:=hb6.size;have hst6:Ar2 w p q 4 ff (.bool false) N c w6:=Ar2.step (by repeat (first | with_reducible assumption | with_reducible refine Ar2.dr ?_)) hb6;have hss6:St2 w w6 p q:=hst6.st;have hcr6:=hst6.fill.cell hlt;have hfr6:=hst6.fill.frozen c;clear hb6))
     all_goals
      go_wp2
      go_meet
      (with_reducible exact ⟨rfl,rfl,hst6⟩)
    case rest =>
     obtain ⟨rfl,rfl,har⟩:=hcut
     have HAR2:=hD har
     clear har HAR
     have hrc:=HAR2.out.fill.cell hlt
     have hrf:=HAR2.out.fill.frozen c
     have hrz:w.heap.size+3 < wc.heap.size:=HAR2.out.fill.low.2
     go_wp2
     go_roundw
     case rel=>exact ⟨c+1,by omega,by go_num,Qgi HAR2.out hlt (by rw [HFC.out];try simp)⟩
     case measure=>simp [intOf];omega
   ·obtain rfl:c=N:=by omega
    have HPK:=hD (QcV (w.heap.size+3) 0 c c R (by omega) (Nat.le_refl _) wr (fun i hi=>by
     rw [Nat.zero_add,HAR.out.fill.done i hi (Nat.le_refl _),HFF.out]))
    go_wp2_with fail
    refine HPK.out.mono ?_
    rintro e w5 ⟨gg,rfl,hr5,hb5⟩
    have HS5:=hD (HAR.out.st.step hb5)
    have HGW:Hid (wr.heap.size<=gg):=hr5.low.1
    have HGS:Hid (w.heap.size+3<=wr.heap.size):=HAR.out.st.sz
    have HR5:=hD hr5
    clear hb5 hr5
    go_wp2_with fail
    refine (QbJ _ _ _ _ _).mono ?_
    rintro e w6 ⟨rfl,hb6⟩
    have HS6:=hD (HS5.out.step hb6)
    have HR6:=hD (HR5.out.below hb6)
    clear hb6
    have HRE:=hD (Qad HS6.out.res (.int .i64 1) (.slice (some ⟨gg,0,none⟩) ((c+63) / 64) ((c+63) / 64)) (.int .i64 (c:Int)) vnil vnil vnil vnil vnil)
    have HBE:=hD (Qac HS6.out.bel (Nat.le_add_right _ 2) (.int .i64 1) (.slice (some ⟨gg,0,none⟩) ((c+63) / 64) ((c+63) / 64)) (.int .i64 (c:Int)) vnil vnil vnil vnil vnil)
    have HKE:Hid (Keeps H (set8 w6 (w.heap.size+2) (.int .i64 1) (.slice (some ⟨gg,0,none⟩) ((c+63) / 64) ((c+63) / 64)) (.int .i64 (c:Int)) vnil vnil vnil vnil vnil) (NumV (vecW 1 (some ⟨gg,0,none⟩,(c+63) / 64,(c+63) / 64) (c:Int) (none,0,0) (none,0,0) (none,0,0) (none,0,0) (none,0,0)) 1 c (fun c=>Qai (R c)))):=by
     have h1:Keeps (fun j=>H j\/j=w.heap.size+2) w6 (fun W=>Reads1 W (.slice (some ⟨gg,0,none⟩) ((c+63) / 64) ((c+63) / 64)) ((List.range ((c+63) / 64)).map fun j => .int .u64 (packW R c j:Nat))) :=
      Own1.keepsH HR6.out (fun j e=>by
       have h1:=HGW.out
       have h2:=HGS.out
       rcases e with e | e
       ·have:=HH.out j e;omega
       ·omega)
     refine ((h1.imp fun W' h=>QbV (by omega) ⟨_,rfl,⟨gg,0,_,rfl,fun j hj=>?_⟩⟩).set8 (.inr rfl) _ _ _ _ _ _ _ _).sub fun _ _ e => .inl e
     exact Qbh h j hj
    clear HR5 HR6
    obtain ⟨⟨h0,h1,h2,h3,h4,h5,h6,h7⟩,hz⟩:=Qag HS6.out.res
    go_wp2
    refine bodyPost_ret (v := .tuple #[vecW 1 (some ⟨gg,0,none⟩,(c+63) / 64,(c+63) / 64) (c:Int) (none,0,0) (none,0,0) (none,0,0) (none,0,0) (none,0,0),.int .i64 0]) (Qas (fn:=Tryz.f61) (p:=8) (u:=9) rfl _ _ (w.heap.size+2) (by rfl) HRE.out) rfl ?_
    exact ⟨1,(some ⟨gg,0,none⟩,(c+63) / 64,(c+63) / 64),(c:Int),(none,0,0),(none,0,0),(none,0,0),(none,0,0),(none,0,0),rfl,HKE.out,HBE.out⟩
theorem QdQ (f:Int) (hf:f=13\/f=16) (H:Nat->Prop) (p q:V8) (m n N:Nat) (z1 z2:Int) (hz:z1≠z2) (w:World) (hH:∀ b,H b->b < w.heap.size) (hL:lenP m n=some N) (hm:m<=1000000) (hn:n<=1000000)
  (hP:ClsV w p z1 m) (hQ:ClsV w q z2 n) :
  Calls Tryz.prog 61 #[.int .i64 f,.int .i64 (N:Int),p.v,q.v] w (Qde H w (fun u W=>NumV u 1 N (fun _=>Qai (false==decide (f=13))) W)):=by
 have hNb:N<=1000000:=Qfb hL hm hn
 have HP:=hD hP
 have HQ:=hD hQ
 have z12:(z1==z2)=false:=by simpa using hz
 clear hz
 have HH:=hD hH
 have HIX:=hD (fun c (hc:c < N)=>Qf2 hL hc)
 obtain ⟨R,hR⟩:∃ R:Nat->Bool,R=fun _=>false==decide (f=13):=⟨_,rfl⟩
 have HRR:Hid (∀ c,R c=(false==decide (f=13))):=fun c=>by rw [hR]
 rw [show (fun _=>Qai (false==decide (f=13)))=fun c=>Qai (R c) by rw [hR]]
 clear hR
 have hmk:=run_make_row' (P:=Tryz.prog) 72 4 (.bool false) 1 Tryz.underlying72 QbW rfl .i64 .i64 N (by omega) (by omega)
 obtain ⟨ff,hff⟩:∃ ff:Nat->Value,ff=fun c => .bool (R c):=⟨_,rfl⟩
 have HFF:Hid (∀ c,ff c= .bool (R c)):=fun c=>by rw [hff]
 clear hff
 have HA0:=hD (Ar2.new w p q 4 ff (.bool false) N (by unfold maxLen;omega))
 clear hP hQ hH hL
 rcases hf with rfl | rfl
 all_goals
  go_enter Tryz.func61,Tryz.ntmps61
  go_wp2
  go_loopw [22] (fun j wr=>∃ c:Nat,c<=N/\j= .int .i64 c/\Ar2 w p q 4 ff (.bool false) N c wr) (fun j _=>N - (intOf j).toNat)
  case atStart=>exact ⟨0,Nat.zero_le _,rfl,HA0.out⟩
  case round =>
   clear HA0
   obtain ⟨c,hc,rfl,har⟩:=hrel
   have HAR:=hD har
   clear har
   by_cases hlt:c < N
   ·obtain ⟨hi1,hi2⟩:=HIX.out c hlt
    have HCP:=hD (fun W (hs:Ar2 w p q 4 ff (.bool false) N c W)=>HP.out.cls W hs.st.bel)
    have HCQ:=hD (fun W (hs:Ar2 w p q 4 ff (.bool false) N c W)=>HQ.out.cls W hs.st.bel)
    have HFC:=hD ((HFF.out c).trans (congrArg Value.bool (HRR.out c)))
    go_upto_block 1 with fail
    go_cut [11,12] from 24 to 43 (fun x y wx=>x= .int .i64 (c:Int)/\y= .bool (false)/\Ar2 w p q 4 ff (.bool false) N c wx)
    case first =>
     go_wp2_with fail
     have HCPn:=hD (fun n:LatW wr=>HCP.out _ (HAR.out.step n.h))
     have HCQn:=hD (fun n:LatW wr=>HCQ.out _ (HAR.out.step n.h))
     have hL1:=LatW.cell (w:=wr) (g:=w.heap.size) (by have:=HAR.out.st.sz;omega)
     have hL2:=LatW.cell (w:=wr) (g:=w.heap.size+1) (by have:=HAR.out.st.sz;omega)
     obtain ⟨h0,h1,h2,h3,h4,h5,h6,h7⟩:=HAR.out.st.one
     obtain ⟨g0,g1,g2,g3,g4,g5,g6,g7⟩:=HAR.out.st.two
     refine QaA (by kernel_rfl) (by kernel_rfl) ?_
     repeat (go_big_quiet_step (first | (go_at_call 44;with_reducible refine QaM (HCPn.out _)) | (go_at_call 44;with_reducible refine QaM (HCQn.out _))))
     refine wpQuiet_nil ?_
     intro _ hw'
     obtain ⟨nq,hw2⟩:=hw'
     subst hw2
     clear hL1 hL2
     go_wp2
     go_meet
     exact ⟨rfl,rfl,HAR.out.step nq.h⟩
    case rest =>
     obtain ⟨rfl,rfl,har⟩:=hcut
     have HAR2:=hD har
     clear har HAR
     have hrc:=HAR2.out.fill.cell hlt
     have hrf:=HAR2.out.fill.frozen c
     have hrz:w.heap.size+3 < wc.heap.size:=HAR2.out.fill.low.2
     go_wp2
     go_roundw
     case rel=>exact ⟨c+1,by omega,by go_num,Qgi HAR2.out hlt (by rw [HFC.out];try simp)⟩
     case measure=>simp [intOf];omega
   ·obtain rfl:c=N:=by omega
    have HPK:=hD (QcV (w.heap.size+3) 0 c c R (by omega) (Nat.le_refl _) wr (fun i hi=>by
     rw [Nat.zero_add,HAR.out.fill.done i hi (Nat.le_refl _),HFF.out]))
    go_wp2_with fail
    refine HPK.out.mono ?_
    rintro e w5 ⟨gg,rfl,hr5,hb5⟩
    have HS5:=hD (HAR.out.st.step hb5)
    have HGW:Hid (wr.heap.size<=gg):=hr5.low.1
    have HGS:Hid (w.heap.size+3<=wr.heap.size):=HAR.out.st.sz
    have HR5:=hD hr5
    clear hb5 hr5
    go_wp2_with fail
    refine (QbJ _ _ _ _ _).mono ?_
    rintro e w6 ⟨rfl,hb6⟩
    have HS6:=hD (HS5.out.step hb6)
    have HR6:=hD (HR5.out.below hb6)
    clear hb6
    have HRE:=hD (Qad HS6.out.res (.int .i64 1) (.slice (some ⟨gg,0,none⟩) ((c+63) / 64) ((c+63) / 64)) (.int .i64 (c:Int)) vnil vnil vnil vnil vnil)
    have HBE:=hD (Qac HS6.out.bel (Nat.le_add_right _ 2) (.int .i64 1) (.slice (some ⟨gg,0,none⟩) ((c+63) / 64) ((c+63) / 64)) (.int .i64 (c:Int)) vnil vnil vnil vnil vnil)
    have HKE:Hid (Keeps H (set8 w6 (w.heap.size+2) (.int .i64 1) (.slice (some ⟨gg,0,none⟩) ((c+63) / 64) ((c+63) / 64)) (.int .i64 (c:Int)) vnil vnil vnil vnil vnil) (NumV (vecW 1 (some ⟨gg,0,none⟩,(c+63) / 64,(c+63) / 64) (c:Int) (none,0,0) (none,0,0) (none,0,0) (none,0,0) (none,0,0)) 1 c (fun c=>Qai (R c)))):=by
     have h1:Keeps (fun j=>H j\/j=w.heap.size+2) w6 (fun W=>Reads1 W (.slice (some ⟨gg,0,none⟩) ((c+63) / 64) ((c+63) / 64)) ((List.range ((c+63) / 64)).map fun j => .int .u64 (packW R c j:Nat))) :=
      Own1.keepsH HR6.out (fun j e=>by
       have h1:=HGW.out
       have h2:=HGS.out
       rcases e with e | e
       ·have:=HH.out j e;omega
       ·omega)
     refine ((h1.imp fun W' h=>QbV (by omega) ⟨_,rfl,⟨gg,0,_,rfl,fun j hj=>?_⟩⟩).set8 (.inr rfl) _ _ _ _ _ _ _ _).sub fun _ _ e => .inl e
     exact Qbh h j hj
    clear HR5 HR6
    obtain ⟨⟨h0,h1,h2,h3,h4,h5,h6,h7⟩,hz⟩:=Qag HS6.out.res
    go_wp2
    refine bodyPost_ret (v := .tuple #[vecW 1 (some ⟨gg,0,none⟩,(c+63) / 64,(c+63) / 64) (c:Int) (none,0,0) (none,0,0) (none,0,0) (none,0,0) (none,0,0),.int .i64 0]) (Qas (fn:=Tryz.f61) (p:=8) (u:=9) rfl _ _ (w.heap.size+2) (by rfl) HRE.out) rfl ?_
    exact ⟨1,(some ⟨gg,0,none⟩,(c+63) / 64,(c+63) / 64),(c:Int),(none,0,0),(none,0,0),(none,0,0),(none,0,0),(none,0,0),rfl,HKE.out,HBE.out⟩
theorem QfS (H:Nat->Prop) (p q:V8) (m n N:Nat) (F G:Nat->Int) (w:World) (hH:∀ b,H b->b < w.heap.size) (hL:lenP m n=some N) (hm:m<=1000000) (hn:n<=1000000)
  (hP:ClsV w p 1 m) (hQ:ClsV w q 1 n)
  (hCP:∀ W,Below w.heap.size w W->∀ j,j < m->Calls Tryz.prog 93 #[p.v,.int .i64 (j:Nat)] W fun e w'=>e= .returned (.int .i32 (F j))/\Below W.heap.size W w') (hCQ:∀ W,Below w.heap.size w W->∀ j,j < n->Calls Tryz.prog 93 #[q.v,.int .i64 (j:Nat)] W fun e w'=>e= .returned (.int .i32 (G j))/\Below W.heap.size W w') :
  Calls Tryz.prog 61 #[.int .i64 13,.int .i64 (N:Int),p.v,q.v] w (Qde H w (fun u W=>NumV u 1 N (fun c=>Qai (decide (F (ixP m c)=G (ixP n c)))) W)):=by
 have h:=Qes 13 (.inl rfl) H p q m n N F G w hH hL hm hn hP hQ hCP hCQ
 rw [show (fun c:Nat=>Qai (decide (F (ixP m c)=G (ixP n c))==decide ((13:Int)=13)))=fun c=>Qai (decide (F (ixP m c)=G (ixP n c))) from funext fun c=>by simp] at h
 exact h
theorem QfT (H:Nat->Prop) (p q:V8) (m n N:Nat) (F G:Nat->Int) (w:World) (hH:∀ b,H b->b < w.heap.size) (hL:lenP m n=some N) (hm:m<=1000000) (hn:n<=1000000)
  (hP:ClsV w p 1 m) (hQ:ClsV w q 1 n)
  (hCP:∀ W,Below w.heap.size w W->∀ j,j < m->Calls Tryz.prog 93 #[p.v,.int .i64 (j:Nat)] W fun e w'=>e= .returned (.int .i32 (F j))/\Below W.heap.size W w') (hCQ:∀ W,Below w.heap.size w W->∀ j,j < n->Calls Tryz.prog 93 #[q.v,.int .i64 (j:Nat)] W fun e w'=>e= .returned (.int .i32 (G j))/\Below W.heap.size W w') :
  Calls Tryz.prog 61 #[.int .i64 16,.int .i64 (N:Int),p.v,q.v] w (Qde H w (fun u W=>NumV u 1 N (fun c=>Qai (!decide (F (ixP m c)=G (ixP n c)))) W)):=by
 have h:=Qes 16 (.inr rfl) H p q m n N F G w hH hL hm hn hP hQ hCP hCQ
 rw [show (fun c:Nat=>Qai (decide (F (ixP m c)=G (ixP n c))==decide ((16:Int)=13)))=fun c=>Qai (!decide (F (ixP m c)=G (ixP n c))) from funext fun c=>by simp] at h
 exact h
theorem QcM (H:Nat->Prop) (p q:V8) (m n N:Nat) (z1 z2:Int) (hz:z1≠z2) (w:World) (hH:∀ b,H b->b < w.heap.size) (hL:lenP m n=some N) (hm:m<=1000000) (hn:n<=1000000)
  (hP:ClsV w p z1 m) (hQ:ClsV w q z2 n) :
  Calls Tryz.prog 61 #[.int .i64 13,.int .i64 (N:Int),p.v,q.v] w (Qde H w (fun u W=>NumV u 1 N (fun _=>Qai (false)) W)):=by
 have h:=QdQ 13 (.inl rfl) H p q m n N z1 z2 hz w hH hL hm hn hP hQ
 rw [show (fun _:Nat=>Qai (false==decide ((13:Int)=13)))=fun _=>Qai (false) from funext fun c=>by simp] at h
 exact h
theorem QcN (H:Nat->Prop) (p q:V8) (m n N:Nat) (z1 z2:Int) (hz:z1≠z2) (w:World) (hH:∀ b,H b->b < w.heap.size) (hL:lenP m n=some N) (hm:m<=1000000) (hn:n<=1000000)
  (hP:ClsV w p z1 m) (hQ:ClsV w q z2 n) :
  Calls Tryz.prog 61 #[.int .i64 16,.int .i64 (N:Int),p.v,q.v] w (Qde H w (fun u W=>NumV u 1 N (fun _=>Qai (true)) W)):=by
 have h:=QdQ 16 (.inr rfl) H p q m n N z1 z2 hz w hH hL hm hn hP hQ
 rw [show (fun _:Nat=>Qai (false==decide ((16:Int)=13)))=fun _=>Qai (true) from funext fun c=>by simp] at h
 exact h
theorem Qlc (f:Int) (h1:f≠13) (h2:f≠16) (p q:V8) (N:Nat) (w:World) :
  Calls Tryz.prog 61 #[.int .i64 f,.int .i64 (N:Int),p.v,q.v] w (Qh3 w 24):=by
 have n13:(f==13)=false:=by simpa using h1
 have n16:(f==16)=false:=by simpa using h2
 have HS0:=hD (St2.new w p q)
 unfold Qh3
 clear h1 h2
 go_enter Tryz.func61,Tryz.ntmps61
 obtain ⟨⟨h0,h1,h2,h3,h4,h5,h6,h7⟩,hz⟩:=Qag HS0.out.res
 go_wp2
 refine bodyPost_ret (v := .tuple #[vecV 0 vnil 0 vnil vnil vnil vnil vnil,.int .i64 24]) ?_ rfl ⟨rfl,HS0.out.bel⟩
 exact Qas (fn:=Tryz.f61) (p:=8) (u:=9) rfl _ _ (w.heap.size+2) (by rfl) HS0.out.res
end Go.Proofs.YtdelgpelkfndeaaGreatDoor
