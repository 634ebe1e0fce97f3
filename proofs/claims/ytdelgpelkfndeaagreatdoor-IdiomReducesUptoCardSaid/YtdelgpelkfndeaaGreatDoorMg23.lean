/- The walks of idiom.flag and idiom.DoReduce. Printed by .. Conditions: as each theorem says. -/
import Derived.Test.YtdelgpelkfndeaaGreatDoorMgA
import Derived.Test.YtdelgpelkfndeaaGreatDoorMg22
import Derived.Test.YtdelgpelkfndeaaGreatDoorMg21
import Derived.Test.YtdelgpelkfndeaaGreatDoorMg07
import Derived.Test.YtdelgpelkfndeaaGreatDoorMg11
set_option maxRecDepth 100000
set_option maxHeartbeats 16000000
namespace Go.Proofs.YtdelgpelkfndeaaGreatDoor
open Go Go.RowKit Go.Proofs Fl
theorem QdU (b:Bool) (w:World):Calls Tryz.prog 33 #[.bool b] w fun e w'=>e= .returned (.float .f64 (Qai b))/\Below w.heap.size w w':=by
 cases b with
 | true =>
  go_enter Tryz.func33,Tryz.ntmps33
  go_wp2
  go_ret
  exact ⟨rfl,Below.refl _ _⟩
 | false =>
  go_enter Tryz.func33,Tryz.ntmps33
  go_wp2
  go_ret
  exact ⟨rfl,Below.refl _ _⟩
theorem BitsIn.congr {W:World}{v:Value}{n:Nat}{l l':Nat->Bool} (g:BitsIn W v n l) (e:∀ j,j < n->l j=l' j):BitsIn W v n l':=by
 obtain ⟨b,o,c,rfl,hc⟩:=g
 exact ⟨b,o,c,rfl,fun j hj=>by rw [hc j hj,Qfu e]⟩
theorem QnW {s t:Bool} (h:Qai s=Qai t):s=t:=by
 cases s <;> cases t <;> first | rfl | (exact absurd h (by decide))
def RelT (K:Nat->Prop) (g:Int) (a b:PA) (u:V8) (z:Int) (W:World):Prop :=
 (z=0/\∃ N,QfB g a b N/\u.k=1/\u.bn=N/\Keeps K W (fun W'=>BitsIn W' (.agg #[.slice u.b.1 u.b.2.1 u.b.2.2,.int .i64 (N:Int)]) N (relR g a b)))\/(z≠0/\∀ N,¬ QfB g a b N)
theorem RelT.lat {K:Nat->Prop}{g:Int}{a b:PA}{u:V8}{z:Int}{W W':World} (s:RelT K g a b u z W) (k:Lat K W W'):RelT K g a b u z W':=by
 rcases s with ⟨e,N,h1,h2,h3,h4⟩ | s
 ·exact .inl ⟨e,N,h1,h2,h3,h4.lat k⟩
 ·exact .inr s
theorem RelT.sub {K J:Nat->Prop}{g:Int}{a b:PA}{u:V8}{z:Int}{W:World} (s:RelT K g a b u z W) (h:∀ b,b < W.heap.size->J b->K b):RelT J g a b u z W:=by
 rcases s with ⟨e,N,h1,h2,h3,h4⟩ | s
 ·exact .inl ⟨e,N,h1,h2,h3,h4.sub h⟩
 ·exact .inr s
def RelW (K:Nat->Prop) (g:Int) (a b:PA) (w:World) (e:Ending) (w':World):Prop :=
 ∃ (k:Int) (b':Sl) (bn:Int) (s i f c x:Sl) (z:Int),e= .returned (.tuple #[vecW k b' bn s i f c x,.int .i64 z])/\RelT K g a b ⟨k,b',bn,s,i,f,c,x⟩ z w'/\Below w.heap.size w w'
theorem Qp6 {K H1 H2:Nat->Prop} (g:Int) (h11:11<=g) (h16:g<=16){a b:PA}{g1 g2:Sl}{p q:V8} (w:World) (hK:∀ b,K b->b < w.heap.size) (ha:AV H1 w a g1 p) (hb:AV H2 w b g2 q) (hm:a.len<=1000000) (hn:b.len<=1000000) :
  Calls Tryz.prog 27 #[.int .i64 g,p.v,q.v] w (RelW K g a b w):=by
 refine (Qli (H:=K) g h11 h16 w hK ha hb hm hn).mono ?_
 rintro e w' (⟨N,hok,k,b',bn,s,i,f,c,x,rfl,hk,hbl⟩ | ⟨hno,E,hE,rfl,hbl⟩)
 ·obtain ⟨l,s9,hv,_,_⟩:=hk.now.bitsX rfl
  have h0:=hv
  injection h0 with h0
  injection h0 with h0
  have hk1:k=1:=by injection h0 with h0 _;injection h0 with _ h0
  have hbn:bn=(N:Int):=by injection h0 with _ h0;injection h0 with _ h0;injection h0 with h0 _;injection h0 with _ h0
  refine ⟨k,b',bn,s,i,f,c,x,0,rfl,.inl ⟨rfl,N,hok,hk1,hbn,?_⟩,hbl⟩
  refine hk.imp fun W' g'=>?_
  obtain ⟨l,s9,hv,hb9,hF⟩:=g'.bitsX rfl
  injection hv with hv
  injection hv with hv
  injection hv with _ hv
  injection hv with hv _
  rw [hv]
  exact hb9.congr fun j hj=>(QnW (hF j hj)).symm
 ·exact ⟨0,nilS,0,nilS,nilS,nilS,nilS,nilS,E,rfl,.inr ⟨hE,hno⟩,hbl⟩
theorem Qp7 {g:Int}{a b:PA}{N:Nat} (hg:g≠0) (h:QfB g a b N):redT g a b=some (N,relR g a b):=by
 unfold redT
 rw [if_neg hg,h.1]
 show (if _ then _ else _)=_
 rw [if_pos h.2]
theorem Qsj {g:Int}{a b:PA} (hg:g≠0) (h:∀ N,¬ QfB g a b N):redT g a b=none:=by
 unfold redT
 rw [if_neg hg]
 cases hL:lenP a.len b.len with
 | none=>rfl
 | some N =>
  show (if _ then _ else _)=_
  rw [if_neg fun h9=>h N ⟨hL,h9⟩]
abbrev phQ (F G:Int):Obj := .cells #[.int .i64 2,.int .i32 F,.int .i32 G] 45
structure PrX (w:World) (F G:Int) (h:Sl) (p:V8) (h':Sl) (q:V8) (W:World):Prop where
 ph:W.heap[w.heap.size]?=some (phQ F G)
 one:At9 W (w.heap.size+1) 0 h p
 two:At9 W (w.heap.size+2) 0 h' q
 res:W.heap[w.heap.size+3]?=some QbN
 bel:Below w.heap.size w W
theorem PrX.step {w:World}{F G:Int}{h:Sl}{p:V8}{h':Sl}{q:V8}{W W':World} (s:PrX w F G h p h' q W) (hb:Below W.heap.size W W'):PrX w F G h p h' q W':=⟨by rw [hb.block _ (lt_blk s.ph)];exact s.ph,s.one.below hb,s.two.below hb,by rw [hb.block _ (lt_blk s.res)];exact s.res,Qaa s.bel hb⟩
theorem PrX.up {w:World}{F G:Int}{h:Sl}{p:V8}{h':Sl}{q:V8}{W W':World} (s:PrX w F G h p h' q W) (hb:Below (w.heap.size+4) W W'):PrX w F G h p h' q W' :=
 ⟨by rw [hb.block _ (by omega)];exact s.ph,s.one.of fun j=>World.cell?_of_block (w:=W) (hb.block (w.heap.size+1) (by omega)),s.two.of fun j=>World.cell?_of_block (w:=W) (hb.block (w.heap.size+2) (by omega)),by rw [hb.block _ (by omega)];exact s.res,s.bel.trans (hb.mono (by omega))⟩
theorem Qel {w:World}{F G:Int}{h:Sl}{p:V8}{h':Sl}{q:V8}{W:World} (s:PrX w F G h p h' q W):(W.cell? ⟨w.heap.size,0,none⟩=some (.int .i64 2)/\W.cell? ⟨w.heap.size,1,none⟩=some (.int .i32 F)/\W.cell? ⟨w.heap.size,2,none⟩=some (.int .i32 G))/\(W.cell? ⟨w.heap.size+1,0,none⟩=some (.slice h.1 h.2.1 h.2.2)/\W.cell? ⟨w.heap.size+1,1,none⟩=some (.int .i64 p.k)/\W.cell? ⟨w.heap.size+1,2,none⟩=some (.slice p.b.1 p.b.2.1 p.b.2.2)/\W.cell? ⟨w.heap.size+1,3,none⟩=some (.int .i64 p.bn)/\W.cell? ⟨w.heap.size+1,4,none⟩=some (.slice p.s.1 p.s.2.1 p.s.2.2)/\W.cell? ⟨w.heap.size+1,5,none⟩=some (.slice p.i.1 p.i.2.1 p.i.2.2)/\W.cell? ⟨w.heap.size+1,6,none⟩=some (.slice p.f.1 p.f.2.1 p.f.2.2)/\W.cell? ⟨w.heap.size+1,7,none⟩=some (.slice p.c.1 p.c.2.1 p.c.2.2)/\W.cell? ⟨w.heap.size+1,8,none⟩=some (.slice p.x.1 p.x.2.1 p.x.2.2))/\(W.cell? ⟨w.heap.size+2,0,none⟩=some (.slice h'.1 h'.2.1 h'.2.2)/\W.cell? ⟨w.heap.size+2,1,none⟩=some (.int .i64 q.k)/\W.cell? ⟨w.heap.size+2,2,none⟩=some (.slice q.b.1 q.b.2.1 q.b.2.2)/\W.cell? ⟨w.heap.size+2,3,none⟩=some (.int .i64 q.bn)/\W.cell? ⟨w.heap.size+2,4,none⟩=some (.slice q.s.1 q.s.2.1 q.s.2.2)/\W.cell? ⟨w.heap.size+2,5,none⟩=some (.slice q.i.1 q.i.2.1 q.i.2.2)/\W.cell? ⟨w.heap.size+2,6,none⟩=some (.slice q.f.1 q.f.2.1 q.f.2.2)/\W.cell? ⟨w.heap.size+2,7,none⟩=some (.slice q.c.1 q.c.2.1 q.c.2.2)/\W.cell? ⟨w.heap.size+2,8,none⟩=some (.slice q.x.1 q.x.2.1 q.x.2.2)) :=
 ⟨⟨by rw [cell_of_row _ _ 0 _ _ (0,0) s.ph];rfl,by rw [cell_of_row _ _ 1 _ _ (0,0) s.ph];rfl,by rw [cell_of_row _ _ 2 _ _ (0,0) s.ph];rfl⟩,s.one.c,s.two.c⟩
theorem PrX.new (w:World) (F G:Int) (h:Sl) (p:V8) (h':Sl) (q:V8):PrX w F G h p h' q ((((w.alloc (phQ F G)).alloc (arrO h p)).alloc (arrO h' q)).alloc QbN):=by
 have e1:(w.alloc (phQ F G)).heap.size=w.heap.size+1:=by simp
 have e2:((w.alloc (phQ F G)).alloc (arrO h p)).heap.size=w.heap.size+2:=by simp
 have e3:(((w.alloc (phQ F G)).alloc (arrO h p)).alloc (arrO h' q)).heap.size=w.heap.size+3:=by simp
 have b1:=heap_alloc_new w (phQ F G)
 have b2:=QaV (w.alloc (phQ F G)) h p
 have b3:=QaV ((w.alloc (phQ F G)).alloc (arrO h p)) h' q
 have b4:=heap_alloc_new (((w.alloc (phQ F G)).alloc (arrO h p)).alloc (arrO h' q)) QbN
 rw [e1] at b2
 rw [e2] at b3
 rw [e3] at b4
 exact ⟨QaJ (QaJ (QaJ b1 _) _) _,(b2.below (bel1 _ _)).below (bel1 _ _),b3.below (bel1 _ _),b4,Qaa (Qaa (Qaa (bel1 _ _) (bel1 _ _)) (bel1 _ _)) (bel1 _ _)⟩
structure PrY (w:World) (F G:Int) (h:Sl) (p:V8) (h':Sl) (q:V8) (X:Nat) (v:V8) (W:World):Prop where
 x:PrX w F G h p h' q W
 var:W.heap[X]?=some v.o
 lo:Hid (w.heap.size+4<=X)
theorem PrY.step {w:World}{F G:Int}{h:Sl}{p:V8}{h':Sl}{q:V8}{X:Nat}{v:V8}{W W':World} (s:PrY w F G h p h' q X v W) (hb:Below W.heap.size W W'):PrY w F G h p h' q X v W':=⟨s.x.step hb,by rw [hb.block _ (lt_blk s.var)];exact s.var,s.lo⟩
theorem PrY.dr {w:World}{F G:Int}{h:Sl}{p:V8}{h':Sl}{q:V8}{X:Nat}{v:V8}{W:World} (s:PrY w F G h p h' q X v W):PrY w F G h p h' q X v W.drew:=s.step (Below.refl _ W).drew
theorem PrY.al {w:World}{F G:Int}{h:Sl}{p:V8}{h':Sl}{q:V8}{X:Nat}{v:V8}{W:World} (s:PrY w F G h p h' q X v W) (o:Obj):PrY w F G h p h' q X v (W.alloc o):=s.step (bel1 W o)
theorem PrY.sz {w:World}{F G:Int}{h:Sl}{p:V8}{h':Sl}{q:V8}{X:Nat}{v:V8}{W:World} (s:PrY w F G h p h' q X v W):X+1<=W.heap.size:=lt_blk s.var
theorem PrY.up {w:World}{F G:Int}{h:Sl}{p:V8}{h':Sl}{q:V8}{X:Nat}{v:V8}{W W':World} (s:PrY w F G h p h' q X v W) (hb:Below (X+1) W W'):PrY w F G h p h' q X v W':=by
 have h9:w.heap.size+4<=X:=s.lo
 exact ⟨s.x.up (hb.mono (by omega)),by rw [hb.block _ (by omega)];exact s.var,s.lo⟩
theorem PrY.put {w:World}{F G:Int}{h:Sl}{p:V8}{h':Sl}{q:V8}{X:Nat}{v:V8}{W:World} (s:PrY w F G h p h' q X v W){b j:Nat} (hb:X+1<=b) (u:Value):PrY w F G h p h' q X v (W.setCell ⟨b,j,none⟩ u):=s.up ((Below.refl _ W).setCell (by show _<=b;exact hb) u)
theorem Qsk {w:World}{F G:Int}{h:Sl}{p:V8}{h':Sl}{q:V8}{X:Nat}{v:V8}{W:World} (s:PrY w F G h p h' q X v W):((W.cell? ⟨w.heap.size,0,none⟩=some (.int .i64 2)/\W.cell? ⟨w.heap.size,1,none⟩=some (.int .i32 F)/\W.cell? ⟨w.heap.size,2,none⟩=some (.int .i32 G))/\(W.cell? ⟨w.heap.size+1,0,none⟩=some (.slice h.1 h.2.1 h.2.2)/\W.cell? ⟨w.heap.size+1,1,none⟩=some (.int .i64 p.k)/\W.cell? ⟨w.heap.size+1,2,none⟩=some (.slice p.b.1 p.b.2.1 p.b.2.2)/\W.cell? ⟨w.heap.size+1,3,none⟩=some (.int .i64 p.bn)/\W.cell? ⟨w.heap.size+1,4,none⟩=some (.slice p.s.1 p.s.2.1 p.s.2.2)/\W.cell? ⟨w.heap.size+1,5,none⟩=some (.slice p.i.1 p.i.2.1 p.i.2.2)/\W.cell? ⟨w.heap.size+1,6,none⟩=some (.slice p.f.1 p.f.2.1 p.f.2.2)/\W.cell? ⟨w.heap.size+1,7,none⟩=some (.slice p.c.1 p.c.2.1 p.c.2.2)/\W.cell? ⟨w.heap.size+1,8,none⟩=some (.slice p.x.1 p.x.2.1 p.x.2.2))/\(W.cell? ⟨w.heap.size+2,0,none⟩=some (.slice h'.1 h'.2.1 h'.2.2)/\W.cell? ⟨w.heap.size+2,1,none⟩=some (.int .i64 q.k)/\W.cell? ⟨w.heap.size+2,2,none⟩=some (.slice q.b.1 q.b.2.1 q.b.2.2)/\W.cell? ⟨w.heap.size+2,3,none⟩=some (.int .i64 q.bn)/\W.cell? ⟨w.heap.size+2,4,none⟩=some (.slice q.s.1 q.s.2.1 q.s.2.2)/\W.cell? ⟨w.heap.size+2,5,none⟩=some (.slice q.i.1 q.i.2.1 q.i.2.2)/\W.cell? ⟨w.heap.size+2,6,none⟩=some (.slice q.f.1 q.f.2.1 q.f.2.2)/\W.cell? ⟨w.heap.size+2,7,none⟩=some (.slice q.c.1 q.c.2.1 q.c.2.2)/\W.cell? ⟨w.heap.size+2,8,none⟩=some (.slice q.x.1 q.x.2.1 q.x.2.2)))/\PrY w F G h p h' q X v W:=⟨Qel s.x,s⟩
theorem PrY.set {w:World}{F G:Int}{h:Sl}{p:V8}{h':Sl}{q:V8}{X:Nat}{v:V8}{W:World} (s:PrY w F G h p h' q X v W) (u:V8):PrY w F G h p h' q X u (set8 W X (.int .i64 u.k) (sv u.b) (.int .i64 u.bn) (sv u.s) (sv u.i) (sv u.f) (sv u.c) (sv u.x)):=by
 have h9:w.heap.size+4<=X:=s.lo
 exact ⟨s.x.up (Qac (Below.refl _ W) h9 _ _ _ _ _ _ _ _),Qad s.var _ _ _ _ _ _ _ _,s.lo⟩
def PrW (w:World) (F G:Int) (h:Sl) (p:V8) (h':Sl) (q:V8) (X:Nat) (g:Int) (a b:PA) (v e:Value) (wx:World):Prop :=
 ∃ (V:Nat) (u:V8) (z:Int),v= .pointer (some ⟨V,0,none⟩)/\e= .int .i64 z/\X+1<=V/\wx.heap[V]?=some u.o/\RelT (fun b=>b=X) g a b u z wx/\PrY w F G h p h' q X zeroP wx
theorem Qsl {w:World}{F G:Int}{h:Sl}{p:V8}{h':Sl}{q:V8}{X:Nat}{g:Int}{a b:PA}{wz W w5:World}{u:V8}{z:Int} (hp:RelT (Hole (fun b=>b=X) wz W) g a b u z w5) (s:PrY w F G h p h' q X zeroP w5) :
  PrW w F G h p h' q X g a b (.pointer (some ⟨w5.heap.size,0,none⟩)) (.int .i64 z) (w5.alloc u.o) :=
 ⟨w5.heap.size,u,z,rfl,rfl,s.sz,heap_alloc_new w5 _,(hp.sub fun _ _ e => .inl e).lat (Lat.below (bel1 w5 _)),s.al _⟩
theorem Qsm {w:World}{F G:Int}{h:Sl}{p:V8}{h':Sl}{q:V8}{X:Nat}{g:Int}{a b:PA}{wz W w5:World}{u:V8}{z:Int}{Z:Nat} (hp:RelT (Hole (fun b=>b=X) wz W) g a b u z w5) (hKZ:Hole (fun b=>b=X) wz W Z) (s:PrY w F G h p h' q X zeroP w5) (hz:ZO (V8.o zeroP) Z w5) (hZ:X+1<=Z) :
  PrW w F G h p h' q X g a b (.pointer (some ⟨Z,0,none⟩)) (.int .i64 z) (set8 w5 Z (.int .i64 u.k) (sv u.b) (.int .i64 u.bn) (sv u.s) (sv u.i) (sv u.f) (sv u.c) (sv u.x)) :=
 ⟨Z,u,z,rfl,rfl,hZ,Qad hz _ _ _ _ _ _ _ _,(hp.lat (Lat.set8 (G:=Z) hKZ _ _ _ _ _ _ _ _)).sub fun _ _ e => .inl e,s.up (Qac (Below.refl _ w5) hZ _ _ _ _ _ _ _ _)⟩
def PrM (w:World) (F G:Int) (h:Sl) (p:V8) (h':Sl) (q:V8) (X:Nat) (T:Option (Nat×(Nat->Bool))) (wx:World):Prop :=
 ∃ (u:V8) (N:Nat) (L:Nat->Bool),T=some (N,L)/\u.k=1/\u.bn=N/\BitsIn wx (.agg #[.slice u.b.1 u.b.2.1 u.b.2.2,.int .i64 (N:Int)]) N L/\PrY w F G h p h' q X u wx
theorem Qqy {w:World}{F G:Int}{h:Sl}{p:V8}{h':Sl}{q:V8}{X:Nat}{T:Option (Nat×(Nat->Bool))}{N:Nat}{L:Nat->Bool}{W:World}{v u:V8} (hT:T=some (N,L)) (hk:u.k=1) (hn:u.bn=N) (hb:Keeps (fun b=>b=X) W (fun W'=>BitsIn W' (.agg #[.slice u.b.1 u.b.2.1 u.b.2.2,.int .i64 (N:Int)]) N L)) (s:PrY w F G h p h' q X v W):PrM w F G h p h' q X T (set8 W X (.int .i64 u.k) (sv u.b) (.int .i64 u.bn) (sv u.s) (sv u.i) (sv u.f) (sv u.c) (sv u.x)) :=
 ⟨u,N,L,hT,hk,hn,(hb.lat (Lat.set8 (H:=fun b=>b=X) (G:=X) rfl _ _ _ _ _ _ _ _)).now,s.set u⟩
theorem QnX {K:Nat->Prop}{W:World}{g N:Nat}{L:Nat->Bool}{B:Nat} (hr:RowU W B g ((N+63) / 64) (packW L N)) (hK:∀ b,K b->b < B):Keeps K W (fun W'=>BitsIn W' (.agg #[.slice (some ⟨g,0,none⟩) ((N+63) / 64) ((N+63) / 64),.int .i64 (N:Int)]) N L):=fun w' hz hb =>
 ⟨g,0,_,rfl,fun j hj=>by
  rw [Nat.zero_add,<- hr.cell hj]
  have h1:=hr.cell hj
  exact World.cell?_of_block (w:=W) (hb g (Qav h1) fun e=>by have h2:=hK g e;have h3:=hr.low;omega)⟩
theorem Qif {H H1 H2:Nat->Prop}{a b:PA}{h h':Sl}{p q:V8} (F G:Int) (most:Nat) (hG:Qan G=0↔G=8714) (hf:Qan F=1\/Qan F=21\/Qan F=22\/Qan F=5\/Qan F=6) (hg:Qan G=0\/(11<=Qan G/\Qan G<=16)) (w:World) (hH:∀ b,H b->b < w.heap.size) (ga:AV H1 w a h p) (gb:AV H2 w b h' q) (d:Nat) (hga:GoodA (d+1) a) (hsa:SmA 1000000 a) (hgb:GoodA (d+1) b) (hsb:SmA 1000000 b) (tz:TzTab w) :
  Calls Tryz.prog 8 #[.agg #[.int .i64 2,.int .i32 F,.int .i32 G],arrV h p,arrV h' q,.int .i64 (most:Int)] w (OaR H w (redE (Qan F) (Qan G) a b most)):=by
 have hr1:h.2.1=a.shape.length:=ga.shape.len
 have hr2:h'.2.1=b.shape.length:=gb.shape.len
 have hla:=hsa.len
 have hlb:=hsb.len
 have HS0:=hD (PrX.new w F G h p h' q)
 have HLA:=hD (fun W (hb:Below w.heap.size w W)=>Qbj ga W hb)
 have HLB:=hD (fun W (hb:Below w.heap.size w W)=>Qbj gb W hb)
 have HHS:=hD (fun W (hb:Below w.heap.size w W)=>Qsf d hgb hsb hga hsa W (AV.step gb hb) (AV.step ga hb) (memB a b) (fun k _=>memB_iff))
 have HPK:=hD (fun (g:Nat) (W:World) hc=>QcV g 0 a.len a.len (memB a b) (by omega) (Nat.le_refl _) W hc)
 have HRA:Hid (Qan G≠0->∀ (K:Nat->Prop) W,Below w.heap.size w W->(∀ b,K b->b < W.heap.size)->Calls Tryz.prog 27 #[.int .i64 (Qan G),p.v,q.v] W (RelW K (Qan G) a b W)):=fun h0 K W hb hK=>by
  have h1:=hg.resolve_left h0
  exact Qp6 (Qan G) h1.1 h1.2 W hK (AV.step ga hb) (AV.step gb hb) hsa.len hsb.len
 have HCF:=hD (fun W=>QfE F W)
 have HCG:=hD (fun W=>QfE G W)
 have HH:=hD hH
 have HTZ:=hD tz
 have HF:=hD hf
 have HBAD:Hid (QcP a b most↔(1 < h.2.1\/1 < h'.2.1\/h.2.1+h'.2.1=0\/most < a.len\/most < b.len)):=by unfold Hid QcP;rw [hr1,hr2]
 have HRT:Hid (Qan G=0->redT (Qan G) a b=if h.2.1=0 then none else some (a.len,memB a b)):=fun e=>by unfold redT;rw [if_pos e,hr1]
 have HTL:Hid (∀ N L,redT (Qan G) a b=some (N,L)->N<=1000000):=fun N L e=>by
  unfold redT at e
  split at e
  ·split at e
   ·cases e
   ·injection e with e
    injection e with e _
    omega
  ·split at e
   ·cases e
   ·rename_i N' hN'
    split at e
    ·injection e with e
     injection e with e _
     have:=Qfb hN' hla hlb
     omega
    ·cases e
 have HLO:Hid (∀ N,QfB (Qan G) a b N->a.len=b.len\/a.len=1\/b.len=1):=fun N e=>by
  have h1:=e.1
  unfold lenP at h1
  split at h1
  ·exact .inl (by assumption)
  ·split at h1
   ·exact .inr (.inl (by assumption))
   ·split at h1
    ·exact .inr (.inr (by assumption))
    ·cases h1
 have HTY:Hid (Qan G≠0->∀ N,QfB (Qan G) a b N->redT (Qan G) a b=some (N,relR (Qan G) a b)):=fun h0 N e=>Qp7 h0 e
 have HTN:Hid (Qan G≠0->(∀ N,¬ QfB (Qan G) a b N)->redT (Qan G) a b=none):=fun h0 e=>Qsj h0 e
 have HRB:Hid (QcP a b most->redE (Qan F) (Qan G) a b most=none):=fun e=>by unfold redE;rw [if_pos e]
 have HRG:Hid (¬ QcP a b most->redE (Qan F) (Qan G) a b most=redP (Qan F) most (redT (Qan G) a b)):=fun e=>by unfold redE;rw [if_neg e]
 obtain ⟨res,hres⟩:∃ res,res=redE (Qan F) (Qan G) a b most:=⟨_,rfl⟩
 rw [<- hres] at HRB HRG ⊢
 obtain ⟨T,hT⟩:∃ T,T=redT (Qan G) a b:=⟨_,rfl⟩
 rw [<- hT] at HRG HRT HTL HTY HTN
 obtain ⟨na,hna⟩:∃ na,na=a.len:=⟨_,rfl⟩
 obtain ⟨nb,hnb⟩:∃ nb,nb=b.len:=⟨_,rfl⟩
 rw [<- hna] at HLA HHS HPK HBAD HRT HLO
 rw [<- hnb] at HLB HBAD HLO
 obtain ⟨cB,hcB⟩:∃ cB:Bool,(G==8714)=cB:=⟨_,rfl⟩
 have HG1:Hid (cB=true->Qan G=0):=fun e=>hG.2 (by rw [e] at hcB;simpa using hcB)
 have HG2:Hid (cB=false->Qan G≠0):=fun e h9=>by have:=hG.1 h9;rw [e] at hcB;simp [this] at hcB
 obtain ⟨wz,hwz⟩:∃ wz,wz=(((w.alloc (phQ F G)).alloc (arrO h p)).alloc (arrO h' q)).alloc QbN:=⟨_,rfl⟩
 rw [<- hwz] at HS0
 have HWZ:=hD hwz
 unfold HasR at HHS
 unfold RelW at HRA
 clear hr1 hr2 hla hlb hna hnb hT hres hwz ga gb hga hsa hgb hsb hf hg hG hH tz
 obtain ⟨bB,hbB⟩:∃ bB:Bool,bB=decide (QcP a b most):=⟨_,rfl⟩
 have HB1:Hid (bB=true->res=none):=fun e=>HRB.out (by rw [e] at hbB;exact of_decide_eq_true hbB.symm)
 have HB2:Hid (bB=false->¬ QcP a b most):=fun e=>by rw [e] at hbB;exact of_decide_eq_false hbB.symm
 have HB3:Hid (bB=decide (1 < h.2.1\/1 < h'.2.1\/h.2.1+h'.2.1=0\/most < na\/most < nb)):=by unfold Hid;rw [hbB,decide_eq_decide];exact HBAD.out
 clear hbB HRB
 go_enter Tryz.func8,Tryz.ntmps8
 go_upto_region 1 with fail
 rw [<- HWZ.out]
 go_cut [53] from 20 (fun v wx=>v= .bool bB/\PrX w F G h p h' q wx)
 case first =>
  have hbt:(1 < h.2.1\/1 < h'.2.1\/h.2.1+h'.2.1=0\/most < na\/most < nb)->bB=true:=fun e=>by rw [HB3.out];exact decide_eq_true e
  have hbf:¬ (1 < h.2.1\/1 < h'.2.1\/h.2.1+h'.2.1=0\/most < na\/most < nb)->bB=false:=fun e=>by rw [HB3.out];exact decide_eq_false e
  have HBT:=hD hbt
  have HBF:=hD hbf
  clear hbt hbf hcB
  by_cases h1:1 < h.2.1
  ·have g1:((h.2.1:Nat):Int) > 1:=by omega
   have HE:=hD (HBT.out (.inl h1))
   clear h1
   obtain ⟨⟨c0,c1,c2⟩,⟨a0,a1,a2,a3,a4,a5,a6,a7,a8⟩,⟨b0,b1,b2,b3,b4,b5,b6,b7,b8⟩⟩:=Qel HS0.out
   go_wp2
   go_meet
   exact ⟨congrArg Value.bool HE.out.symm,HS0.out⟩
  ·by_cases h2:1 < h'.2.1
   ·have g1:¬ ((h.2.1:Nat):Int) > 1:=by omega
    have g2:((h'.2.1:Nat):Int) > 1:=by omega
    have HE:=hD (HBT.out (.inr (.inl h2)))
    clear h1 h2
    obtain ⟨⟨c0,c1,c2⟩,⟨a0,a1,a2,a3,a4,a5,a6,a7,a8⟩,⟨b0,b1,b2,b3,b4,b5,b6,b7,b8⟩⟩:=Qel HS0.out
    go_wp2
    go_meet
    exact ⟨congrArg Value.bool HE.out.symm,HS0.out⟩
   ·have g1:¬ ((h.2.1:Nat):Int) > 1:=by omega
    have g2:¬ ((h'.2.1:Nat):Int) > 1:=by omega
    have g3:IntKind.i64.wrap (((h.2.1:Nat):Int)+((h'.2.1:Nat):Int))=((h.2.1:Nat):Int)+((h'.2.1:Nat):Int):=IntWalk.i64_in _ (by omega)
    by_cases h3:h.2.1+h'.2.1=0
    ·have g4:(((h.2.1:Nat):Int)+((h'.2.1:Nat):Int)==0)=true:=by rw [beq_iff_eq];omega
     have HE:=hD (HBT.out (.inr (.inr (.inl h3))))
     clear h1 h2 h3
     obtain ⟨⟨c0,c1,c2⟩,⟨a0,a1,a2,a3,a4,a5,a6,a7,a8⟩,⟨b0,b1,b2,b3,b4,b5,b6,b7,b8⟩⟩:=Qel HS0.out
     go_wp2
     go_meet
     exact ⟨congrArg Value.bool HE.out.symm,HS0.out⟩
    ·have g4:(((h.2.1:Nat):Int)+((h'.2.1:Nat):Int)==0)=false:=by rw [beq_eq_false_iff_ne];omega
     by_cases h4:most < na
     ·have g5:((na:Nat):Int) > ((most:Nat):Int):=by omega
      have HE:=hD (HBT.out (.inr (.inr (.inr (.inl h4)))))
      clear h1 h2 h3 h4
      obtain ⟨⟨c0,c1,c2⟩,⟨a0,a1,a2,a3,a4,a5,a6,a7,a8⟩,⟨b0,b1,b2,b3,b4,b5,b6,b7,b8⟩⟩:=Qel HS0.out
      go_wp2_with fail
      refine (HLA.out _ HS0.out.bel).mono ?_
      rintro e w1 ⟨rfl,hb⟩
      have HS1:=hD (HS0.out.step hb)
      clear hb c0 c1 c2 a0 a1 a2 a3 a4 a5 a6 a7 a8 b0 b1 b2 b3 b4 b5 b6 b7 b8 HS0
      obtain ⟨⟨c0,c1,c2⟩,⟨a0,a1,a2,a3,a4,a5,a6,a7,a8⟩,⟨b0,b1,b2,b3,b4,b5,b6,b7,b8⟩⟩:=Qel HS1.out
      go_wp2
      go_meet
      exact ⟨congrArg Value.bool HE.out.symm,HS1.out⟩
     ·have g5:¬ ((na:Nat):Int) > ((most:Nat):Int):=by omega
      by_cases h5:most < nb
      ·have g6:((nb:Nat):Int) > ((most:Nat):Int):=by omega
       have HE:=hD (HBT.out (.inr (.inr (.inr (.inr h5)))))
       clear h1 h2 h3 h4 h5
       obtain ⟨⟨c0,c1,c2⟩,⟨a0,a1,a2,a3,a4,a5,a6,a7,a8⟩,⟨b0,b1,b2,b3,b4,b5,b6,b7,b8⟩⟩:=Qel HS0.out
       go_wp2_with fail
       refine (HLA.out _ HS0.out.bel).mono ?_
       rintro e w1 ⟨rfl,hb⟩
       have HS1:=hD (HS0.out.step hb)
       clear hb c0 c1 c2 a0 a1 a2 a3 a4 a5 a6 a7 a8 b0 b1 b2 b3 b4 b5 b6 b7 b8 HS0
       obtain ⟨⟨c0,c1,c2⟩,⟨a0,a1,a2,a3,a4,a5,a6,a7,a8⟩,⟨b0,b1,b2,b3,b4,b5,b6,b7,b8⟩⟩:=Qel HS1.out
       go_wp2_with fail
       refine (HLB.out _ HS1.out.bel).mono ?_
       rintro e w2 ⟨rfl,hb⟩
       have HS2:=hD (HS1.out.step hb)
       clear hb c0 c1 c2 a0 a1 a2 a3 a4 a5 a6 a7 a8 b0 b1 b2 b3 b4 b5 b6 b7 b8 HS1
       obtain ⟨⟨c0,c1,c2⟩,⟨a0,a1,a2,a3,a4,a5,a6,a7,a8⟩,⟨b0,b1,b2,b3,b4,b5,b6,b7,b8⟩⟩:=Qel HS2.out
       go_wp2
       go_meet
       exact ⟨congrArg Value.bool HE.out.symm,HS2.out⟩
      ·have g6:¬ ((nb:Nat):Int) > ((most:Nat):Int):=by omega
       have HE:=hD (HBF.out (by rintro (e | e | e | e | e) <;> omega))
       have H4:=hD (decide_eq_false h4)
       have H5:=hD (decide_eq_false h5)
       clear h1 h2 h3 h4 h5
       obtain ⟨⟨c0,c1,c2⟩,⟨a0,a1,a2,a3,a4,a5,a6,a7,a8⟩,⟨b0,b1,b2,b3,b4,b5,b6,b7,b8⟩⟩:=Qel HS0.out
       go_wp2_with fail
       refine (HLA.out _ HS0.out.bel).mono ?_
       rintro e w1 ⟨rfl,hb⟩
       have HS1:=hD (HS0.out.step hb)
       clear hb c0 c1 c2 a0 a1 a2 a3 a4 a5 a6 a7 a8 b0 b1 b2 b3 b4 b5 b6 b7 b8 HS0
       obtain ⟨⟨c0,c1,c2⟩,⟨a0,a1,a2,a3,a4,a5,a6,a7,a8⟩,⟨b0,b1,b2,b3,b4,b5,b6,b7,b8⟩⟩:=Qel HS1.out
       go_wp2_with fail
       refine (HLB.out _ HS1.out.bel).mono ?_
       rintro e w2 ⟨rfl,hb⟩
       have HS2:=hD (HS1.out.step hb)
       clear hb c0 c1 c2 a0 a1 a2 a3 a4 a5 a6 a7 a8 b0 b1 b2 b3 b4 b5 b6 b7 b8 HS1
       obtain ⟨⟨c0,c1,c2⟩,⟨a0,a1,a2,a3,a4,a5,a6,a7,a8⟩,⟨b0,b1,b2,b3,b4,b5,b6,b7,b8⟩⟩:=Qel HS2.out
       go_wp2
       go_meet
       exact ⟨congrArg Value.bool (by rw [HE.out,H4.out,H5.out];rfl),HS2.out⟩
 obtain ⟨rfl,hst⟩:=hcut
 have HS1:=hD hst
 clear hst HS0 HWZ
 cases bB with
 | true =>
  have HNO:=hD (HB1.out rfl)
  have HBE:=hD (Qal HS1.out.bel (show w.heap.size<=w.heap.size+3 by omega) (.slice none 0 0) (.int .i64 0) (.slice none 0 0) (.int .i64 0) (.slice none 0 0) (.slice none 0 0) (.slice none 0 0) (.slice none 0 0) (.slice none 0 0))
  have HRE:=hD (Qat HS1.out.res (.slice none 0 0) (.int .i64 0) (.slice none 0 0) (.int .i64 0) (.slice none 0 0) (.slice none 0 0) (.slice none 0 0) (.slice none 0 0) (.slice none 0 0))
  obtain ⟨⟨y0,y1,y2,y3,y4,y5,y6,y7,y8⟩,yz⟩:=Qam HS1.out.res
  go_wp2
  rw [HNO.out]
  refine bodyPost_ret (v := .tuple #[arrV nilS zeroP,.bool false]) ?_ rfl (Qie HBE.out)
  exact QaQ (fn:=Tryz.f8) (p:=8) (u:=9) rfl _ _ (w.heap.size+3) (by rfl) HRE.out
 | false =>
  have HNB:=hD (HB2.out rfl)
  have HRES:=hD (HRG.out HNB.out)
  have HRK:Hid (h.2.1<=1/\h'.2.1<=1):=by
   unfold Hid
   have:=fun e=>HNB.out (HBAD.out.2 e)
   constructor
   ·exact Nat.le_of_not_lt fun e=>this (.inl e)
   ·exact Nat.le_of_not_lt fun e=>this (.inr (.inl e))
  clear HB1 HB2 HB3 HRG HNB HBAD
  obtain ⟨X,hX⟩:∃ X,X=wc.heap.size:=⟨_,rfl⟩
  obtain ⟨w2,hw2⟩:∃ w2,w2=wc.alloc (V8.o zeroP):=⟨_,rfl⟩
  have HS2:Hid (PrY w F G h p h' q X zeroP w2):=by
   unfold Hid
   rw [hw2]
   exact ⟨HS1.out.step (bel1 _ _),by rw [hX];exact heap_alloc_new wc _,by rw [hX];exact lt_blk HS1.out.res⟩
  have HW2:=hD hw2
  have HXE:=hD hX
  clear hw2 hX HS1
  go_upto_region 4 with fail
  rw [<- HW2.out,<- HXE.out]
  clear HW2 HXE
  obtain ⟨⟨⟨c0,c1,c2⟩,⟨a0,a1,a2,a3,a4,a5,a6,a7,a8⟩,⟨b0,b1,b2,b3,b4,b5,b6,b7,b8⟩⟩,-⟩:=Qsk HS2.out
  go_upto_if 57 with fail
  go_cut [] from 20 (fun wx=>PrM w F G h p h' q X T wx)
  case first =>
   cases cB with
   | true =>
    have HG:=hD (HG1.out rfl)
    have hrt:=HRT.out HG.out
    by_cases h0:h.2.1=0
    ·have g1:(((h.2.1:Nat):Int)==0)=true:=by rw [beq_iff_eq];omega
     rw [if_pos h0] at hrt
     have HS3:=hD HS2.out.x
     have HNO:Hid (res=none):=by unfold Hid;rw [HRES.out,hrt];rfl
     clear h0 hrt
     have HBE:=hD (Qal HS3.out.bel (show w.heap.size<=w.heap.size+3 by omega) (.slice none 0 0) (.int .i64 0) (.slice none 0 0) (.int .i64 0) (.slice none 0 0) (.slice none 0 0) (.slice none 0 0) (.slice none 0 0) (.slice none 0 0))
     have HRE:=hD (Qat HS3.out.res (.slice none 0 0) (.int .i64 0) (.slice none 0 0) (.int .i64 0) (.slice none 0 0) (.slice none 0 0) (.slice none 0 0) (.slice none 0 0) (.slice none 0 0))
     obtain ⟨⟨y0,y1,y2,y3,y4,y5,y6,y7,y8⟩,yz⟩:=Qam HS3.out.res
     go_wp2
     rw [HNO.out]
     refine bodyPost_ret (v := .tuple #[arrV nilS zeroP,.bool false]) ?_ rfl (Qie HBE.out)
     exact QaQ (fn:=Tryz.f8) (p:=8) (u:=9) rfl _ _ (w.heap.size+3) (by rfl) HRE.out
    ·have g1:(((h.2.1:Nat):Int)==0)=false:=by rw [beq_eq_false_iff_ne];omega
     rw [if_neg h0] at hrt
     have HT:=hD hrt
     clear h0 hrt
     go_wp2_with fail
     refine (HHS.out _ HS2.out.x.bel).mono ?_
     rintro e w3 ⟨G3,rfl,hG3,hc3,hb3⟩
     have HS3:=hD (HS2.out.step hb3)
     have HC3:=hD hc3
     clear hG3 hc3 hb3 c0 c1 c2 a0 a1 a2 a3 a4 a5 a6 a7 a8 b0 b1 b2 b3 b4 b5 b6 b7 b8 HS2
     go_wp2_with fail
     refine (HPK.out _ _ HC3.out).mono ?_
     rintro e w4 ⟨g4,rfl,hr4,hb4⟩
     have HS4:=hD (HS3.out.step hb4)
     have HR4:=hD (QnX (K:=fun b=>b=X) hr4 (fun b e=>by rw [e];exact HS3.out.sz))
     clear hr4 hb4 HC3 HS3
     go_wp2_with fail
     refine (QbJ _ _ _ _ _).mono ?_
     rintro e w5 ⟨rfl,hb5⟩
     have HS5:=hD (HS4.out.step hb5)
     have HDM:=hD (Qqy (u:=⟨1,(some ⟨g4,0,none⟩,(na+63) / 64,(na+63) / 64),na,nilS,nilS,nilS,nilS,nilS⟩) HT.out rfl rfl (HR4.out.step hb5) HS5.out)
     clear hb5 HR4 HS4
     obtain ⟨⟨v0,v1,v2,v3,v4,v5,v6,v7⟩,vz⟩:=Qag HS5.out.var
     go_wp2
     go_meet
     exact HDM.out
   | false =>
    have HG:=hD (HG2.out rfl)
    have HRAs:=hD (fun W (s:PrY w F G h p h' q X zeroP W) (hb:Below w2.heap.size w2 W)=>HRA.out HG.out (Hole (fun b=>b=X) w2 W) W s.x.bel (Hole.lt (fun b e=>by rw [e];exact HS2.out.sz) hb))
    have HS20:=hD HS2.out
    have hs5:=HS2.out.sz
    go_upto_region 8 with fail
    go_cut [11,12] from 20 (fun v e wx=>PrW w F G h p h' q X (Qan G) a b v e wx)
    case first =>
     clear c0 c1 c2 a0 a1 a2 a3 a4 a5 a6 a7 a8 b0 b1 b2 b3 b4 b5 b6 b7 b8 hcB HLA HLB HHS HPK HRA HH HTZ HF HRT HTL HLO HTY HTN HRES
     have hs0:=HS2.out.dr
     have hs00:=HS2.out
     clear HS2
     go_region_held3 (fun W=>((W.cell? ⟨w.heap.size,0,none⟩=some (.int .i64 2)/\W.cell? ⟨w.heap.size,1,none⟩=some (.int .i32 F)/\W.cell? ⟨w.heap.size,2,none⟩=some (.int .i32 G))/\(W.cell? ⟨w.heap.size+1,0,none⟩=some (.slice h.1 h.2.1 h.2.2)/\W.cell? ⟨w.heap.size+1,1,none⟩=some (.int .i64 p.k)/\W.cell? ⟨w.heap.size+1,2,none⟩=some (.slice p.b.1 p.b.2.1 p.b.2.2)/\W.cell? ⟨w.heap.size+1,3,none⟩=some (.int .i64 p.bn)/\W.cell? ⟨w.heap.size+1,4,none⟩=some (.slice p.s.1 p.s.2.1 p.s.2.2)/\W.cell? ⟨w.heap.size+1,5,none⟩=some (.slice p.i.1 p.i.2.1 p.i.2.2)/\W.cell? ⟨w.heap.size+1,6,none⟩=some (.slice p.f.1 p.f.2.1 p.f.2.2)/\W.cell? ⟨w.heap.size+1,7,none⟩=some (.slice p.c.1 p.c.2.1 p.c.2.2)/\W.cell? ⟨w.heap.size+1,8,none⟩=some (.slice p.x.1 p.x.2.1 p.x.2.2))/\(W.cell? ⟨w.heap.size+2,0,none⟩=some (.slice h'.1 h'.2.1 h'.2.2)/\W.cell? ⟨w.heap.size+2,1,none⟩=some (.int .i64 q.k)/\W.cell? ⟨w.heap.size+2,2,none⟩=some (.slice q.b.1 q.b.2.1 q.b.2.2)/\W.cell? ⟨w.heap.size+2,3,none⟩=some (.int .i64 q.bn)/\W.cell? ⟨w.heap.size+2,4,none⟩=some (.slice q.s.1 q.s.2.1 q.s.2.2)/\W.cell? ⟨w.heap.size+2,5,none⟩=some (.slice q.i.1 q.i.2.1 q.i.2.2)/\W.cell? ⟨w.heap.size+2,6,none⟩=some (.slice q.f.1 q.f.2.1 q.f.2.2)/\W.cell? ⟨w.heap.size+2,7,none⟩=some (.slice q.c.1 q.c.2.1 q.c.2.2)/\W.cell? ⟨w.heap.size+2,8,none⟩=some (.slice q.x.1 q.x.2.1 q.x.2.2)))/\PrY w F G h p h' q X zeroP W)
      (first | with_reducible assumption | (with_reducible (refine Qsk ?_);repeat (first | with_reducible assumption | with_reducible refine PrY.dr ?_ | with_reducible refine PrY.al ?_ _ | (with_reducible refine PrY.put ?_ (by first | assumption | omega | (simp;omega)) _))))
      (first
       | (go_at_call 22;(with_reducible refine (HCG.out _).mono ?_);rintro e w1 ⟨rfl,hb1⟩;have hst1:PrY w F G h p h' q X zeroP w1:=PrY.step (by repeat (first | with_reducible assumption | with_reducible refine PrY.dr ?_ | with_reducible refine PrY.al ?_ _)) hb1;have hbl1:BelT w2 w1:=BelT.step (by repeat (first | with_reducible assumption | with_reducible exact BelT.refl _ | with_reducible refine BelT.dr ?_ | with_reducible refine BelT.al ?_ _)) hb1;have HB1:=hD hb1;obtain ⟨hc1,hfz1⟩:=bcell2 hb1;have hz1:=hb1.size;have hs1z:=hst1.sz;(first | (have hsq1:w2.heap.size < w1.heap.size:=Nat.lt_of_lt_of_le (Qa5 _ _) hz1) | (have hsq1:w2.heap.size < w1.heap.size:=Nat.lt_of_lt_of_le (Qa6 _ _) hz1) | skip);clear hb1)
       | (go_at_call 27;(with_reducible refine (HRAs.out _ ?_ ?_).mono ?_);(repeat (first | with_reducible assumption | with_reducible refine PrY.dr ?_ | with_reducible refine PrY.al ?_ _));exact BelT.self (by repeat (first | with_reducible assumption | with_reducible exact BelT.refl _ | with_reducible refine BelT.dr ?_ | with_reducible refine BelT.al ?_ _));rintro e w5 ⟨k5,b5,bn5,s5,i5,f5,c5,x5,z5,rfl,hp5,hb5⟩;have hst5:PrY w F G h p h' q X zeroP w5:=PrY.step (by repeat (first | with_reducible assumption | with_reducible refine PrY.dr ?_ | with_reducible refine PrY.al ?_ _)) hb5;obtain ⟨hc5,hfz5⟩:=bcell2 hb5;have hz5:=hb5.size;have hs5z:=hst5.sz;(first | (have hsq5:w1.heap.size < w5.heap.size:=Nat.lt_of_lt_of_le (Qa5 _ _) hz5) | (have hsq5:w1.heap.size < w5.heap.size:=Nat.lt_of_lt_of_le (Qa6 _ _) hz5) | (have hsq5:w1.heap.size<=w5.heap.size:=hz5) | skip);(first | (have hsr5:w2.heap.size < w5.heap.size:=Nat.lt_of_lt_of_le hsq1 (Nat.le_of_lt hsq5)) | (have hsr5:w2.heap.size < w5.heap.size:=Nat.lt_of_lt_of_le hsq1 hsq5) | skip);have HB5:=hD hb5;have HP5:=hD hp5;clear hb5 hp5))
     all_goals
      go_wp2
      go_meet
      first
       | with_reducible exact Qsl HP5.out hst5
       | (with_reducible refine Qsm HP5.out (.inr ⟨?_,?_⟩) hst5 (ZO.step ?_ HB5.out) ?_;all_goals (first | with_reducible exact Nat.le_refl _ | with_reducible exact Qa5 _ _ | with_reducible exact Qa6 _ _ | exact hs5 | exact hs1z | exact hsq1 | exact Below.size (BelT.self hbl1) | exact HB1.out.size | omega | (repeat (first | with_reducible exact ZO.new _ _ | with_reducible refine ZO.dr ?_ | with_reducible refine ZO.step ?_ HB1.out))))
    obtain ⟨V,u,z,rfl,rfl,hVl,hV,hrt,hst⟩:=hcut
    rcases hrt with ⟨rfl,N,hok,hk1,hbn,hbi⟩ | ⟨hz,hno⟩
    ·have HS6:=hD hst
     have HT:=hD (HTY.out HG.out N hok)
     have hlo:=HLO.out N hok
     have HV:=hD hV
     have HBI:=hD hbi
     have HK1:=hD hk1
     have HBN:=hD hbn
     have HV2:Hid (∀ W,Below wc.heap.size wc W->W.heap[V]?=some u.o):=fun W hb=>by rw [hb.block _ (lt_blk HV.out)];exact HV.out
     have hrk:=HRK.out
     clear hst hok hV hbi hk1 hbn HS2 c0 c1 c2 a0 a1 a2 a3 a4 a5 a6 a7 a8 b0 b1 b2 b3 b4 b5 b6 b7 b8 HS20 HRAs
     go_upto_region 9 with fail
     go_cut [115] from 20 (fun v wx=>v= .bool false/\Below wc.heap.size wc wx)
     case first =>
      have HLAn:=hD (fun n:LatW wc=>HLA.out _ (Qaa HS6.out.x.bel n.h))
      have HLBn:=hD (fun n:LatW wc=>HLB.out _ (Qaa HS6.out.x.bel n.h))
      have hL1:=LatW.cell (w:=wc) (g:=w.heap.size+1) HS6.out.x.one.lt
      have hL2:=LatW.cell (w:=wc) (g:=w.heap.size+2) HS6.out.x.two.lt
      obtain ⟨⟨⟨c0,c1,c2⟩,⟨a0,a1,a2,a3,a4,a5,a6,a7,a8⟩,⟨b0,b1,b2,b3,b4,b5,b6,b7,b8⟩⟩,-⟩:=Qsk HS6.out
      clear hcB
      by_cases e1:h.2.1=1
      ·have g7:(((h.2.1:Nat):Int)==1)=true:=by rw [beq_iff_eq];omega
       by_cases e2:h'.2.1=1
       ·have g8:(((h'.2.1:Nat):Int)==1)=true:=by rw [beq_iff_eq];omega
        by_cases e3:na=nb
        ·have g9:(((na:Nat):Int) != ((nb:Nat):Int))=false:=by rw [bne_eq_false_iff_eq];omega
         clear e1 e2 e3 hlo hrk
         refine QaA (by kernel_rfl) (by kernel_rfl) ?_
         repeat (go_big_quiet_step (first | (go_at_call 23;with_reducible refine QaM (HLAn.out _)) | (go_at_call 23;with_reducible refine QaM (HLBn.out _))))
         refine wpQuiet_nil ?_
         intro _ hw'
         obtain ⟨nq,hw''⟩:=hw'
         subst hw''
         clear hL1 hL2
         go_wp2
         go_meet
         exact ⟨rfl,nq.h⟩
        ·have g9:(((na:Nat):Int) != ((nb:Nat):Int))=true:=by rw [bne_iff_ne];omega
         by_cases e4:na=1
         ·have g10:(((na:Nat):Int) != 1)=false:=by rw [bne_eq_false_iff_eq];omega
          clear e1 e2 e3 e4 hlo hrk
          refine QaA (by kernel_rfl) (by kernel_rfl) ?_
          repeat (go_big_quiet_step (first | (go_at_call 23;with_reducible refine QaM (HLAn.out _)) | (go_at_call 23;with_reducible refine QaM (HLBn.out _))))
          refine wpQuiet_nil ?_
          intro _ hw'
          obtain ⟨nq,hw''⟩:=hw'
          subst hw''
          clear hL1 hL2
          go_wp2
          go_meet
          exact ⟨rfl,nq.h⟩
         ·have g10:(((na:Nat):Int) != 1)=true:=by rw [bne_iff_ne];omega
          have g11:(((nb:Nat):Int) != 1)=false:=by rw [bne_eq_false_iff_eq];omega
          clear e1 e2 e3 e4 hlo hrk
          refine QaA (by kernel_rfl) (by kernel_rfl) ?_
          repeat (go_big_quiet_step (first | (go_at_call 23;with_reducible refine QaM (HLAn.out _)) | (go_at_call 23;with_reducible refine QaM (HLBn.out _))))
          refine wpQuiet_nil ?_
          intro _ hw'
          obtain ⟨nq,hw''⟩:=hw'
          subst hw''
          clear hL1 hL2
          go_wp2
          go_meet
          exact ⟨rfl,nq.h⟩
       ·have g8:(((h'.2.1:Nat):Int)==1)=false:=by rw [beq_eq_false_iff_ne];omega
        clear e1 e2 hlo hrk
        refine QaA (by kernel_rfl) (by kernel_rfl) ?_
        repeat (go_big_quiet_step (first | (go_at_call 23;with_reducible refine QaM (HLAn.out _)) | (go_at_call 23;with_reducible refine QaM (HLBn.out _))))
        refine wpQuiet_nil ?_
        intro _ hw'
        obtain ⟨nq,hw''⟩:=hw'
        subst hw''
        clear hL1 hL2
        go_wp2
        go_meet
        exact ⟨rfl,nq.h⟩
      ·have g7:(((h.2.1:Nat):Int)==1)=false:=by rw [beq_eq_false_iff_ne];omega
       clear e1 hlo hrk
       refine QaA (by kernel_rfl) (by kernel_rfl) ?_
       repeat (go_big_quiet_step (first | (go_at_call 23;with_reducible refine QaM (HLAn.out _)) | (go_at_call 23;with_reducible refine QaM (HLBn.out _))))
       refine wpQuiet_nil ?_
       intro _ hw'
       obtain ⟨nq,hw''⟩:=hw'
       subst hw''
       clear hL1 hL2
       go_wp2
       go_meet
       exact ⟨rfl,nq.h⟩
     obtain ⟨rfl,hb9⟩:=hcut
     have HS7:=hD (HS6.out.step hb9)
     have hv7:=HV2.out _ hb9
     have HDM:=hD (Qqy HT.out HK1.out HBN.out (HBI.out.step hb9) HS7.out)
     clear hb9 hlo hrk HV HV2 HBI HK1 HBN HS6
     obtain ⟨⟨v0,v1,v2,v3,v4,v5,v6,v7⟩,vz⟩:=Qag HS7.out.var
     obtain ⟨⟨u0,u1,u2,u3,u4,u5,u6,u7⟩,uz⟩:=Qag hv7
     clear hv7
     go_wp2
     go_meet
     exact HDM.out
    ·have HS6:=hD hst.x
     have HNO:Hid (res=none):=by unfold Hid;rw [HRES.out,HTN.out HG.out hno];rfl
     have hz1:(z != 0)=true:=by rw [bne_iff_ne];exact hz
     clear hst hno hz HS2 c0 c1 c2 a0 a1 a2 a3 a4 a5 a6 a7 a8 b0 b1 b2 b3 b4 b5 b6 b7 b8 HS20 HRAs hV
     go_upto_region 9 with fail
     refine QaA (by kernel_rfl) (by kernel_rfl) ?_
     repeat (go_big_quiet_step (fail))
     refine wpQuiet_nil ?_
     intro _ hw'
     obtain ⟨nq,hw''⟩:=hw'
     subst hw''
     have HS7:=hD (HS6.out.step nq.h)
     clear HS6
     have HBE:=hD (Qal HS7.out.bel (show w.heap.size<=w.heap.size+3 by omega) (.slice none 0 0) (.int .i64 0) (.slice none 0 0) (.int .i64 0) (.slice none 0 0) (.slice none 0 0) (.slice none 0 0) (.slice none 0 0) (.slice none 0 0))
     have HRE:=hD (Qat HS7.out.res (.slice none 0 0) (.int .i64 0) (.slice none 0 0) (.int .i64 0) (.slice none 0 0) (.slice none 0 0) (.slice none 0 0) (.slice none 0 0) (.slice none 0 0))
     obtain ⟨⟨y0,y1,y2,y3,y4,y5,y6,y7,y8⟩,yz⟩:=Qam HS7.out.res
     go_wp2
     rw [HNO.out]
     refine bodyPost_ret (v := .tuple #[arrV nilS zeroP,.bool false]) ?_ rfl (Qie HBE.out)
     exact QaQ (fn:=Tryz.f8) (p:=8) (u:=9) rfl _ _ (w.heap.size+3) (by rfl) HRE.out
  obtain ⟨u,N,L,hT,hk,hn,hbi,hst⟩:=hcut
  obtain ⟨k,ub,bn,us,ui,uf,uc,ux⟩:=u
  dsimp only at hk hn hbi
  subst hk
  subst hn
  have HTZ2:=hD (TzTab.below HTZ.out hst.x.bel)
  have HNL:Hid (N<=1000000):=HTL.out N L hT
  have HRES2:Hid (res=if N=0\/most < N then none else (rowB (Qan F) L N).map oneA):=by unfold Hid;rw [HRES.out,hT];rfl
  have HST:=hD hst
  have HBI:=hD hbi
  clear hst hbi hT HS2 hcB HG1 HG2 HLA HLB HHS HPK HRA HCG HRT HTL HLO HTY HTN HRES HRK HTZ c0 c1 c2 a0 a1 a2 a3 a4 a5 a6 a7 a8 b0 b1 b2 b3 b4 b5 b6 b7 b8
  obtain ⟨⟨v0,v1,v2,v3,v4,v5,v6,v7⟩,vz⟩:=Qag HST.out.var
  go_wp2_with fail
  refine (Qbi ub _ _ _ _ _ _ _).mono ?_
  rintro e w3 ⟨rfl,hb3⟩
  have HS4:=hD ((HST.out.x.step hb3).step (bel1 w3 (.cells #[.slice ub.1 ub.2.1 ub.2.2,.int .i64 (N:Int)] 33)))
  have HX4:=hD (heap_alloc_new w3 (.cells #[.slice ub.1 ub.2.1 ub.2.2,.int .i64 (N:Int)] 33))
  have HBI4:=hD ((HBI.out.below hb3).below (bel1 w3 (.cells #[.slice ub.1 ub.2.1 ub.2.2,.int .i64 (N:Int)] 33)))
  have HTZ4:=hD ((TzTab.below HTZ2.out hb3).below (bel1 w3 (.cells #[.slice ub.1 ub.2.1 ub.2.2,.int .i64 (N:Int)] 33)))
  clear hb3 HST HBI HTZ2 v0 v1 v2 v3 v4 v5 v6 v7 vz
  obtain ⟨d0,d1,d2⟩:=Qaj HX4.out
  go_wp2_with fail
  refine (QiE _ N L _ HBI4.out).mono ?_
  rintro e w5 ⟨rfl,hb5⟩
  have HS5:=hD (HS4.out.step hb5)
  have HX5:Hid (w5.heap[w3.heap.size]?=some (.cells #[.slice ub.1 ub.2.1 ub.2.2,.int .i64 (N:Int)] 33)):=by unfold Hid;rw [hb5.block _ (lt_blk HX4.out)];exact HX4.out
  have HBI5:=hD (HBI4.out.below hb5)
  have HTZ5:=hD (HTZ4.out.below hb5)
  clear hb5 HS4 HX4 HBI4 HTZ4 d0 d1 d2
  by_cases h0:N=0
  ·have g1:(((N:Nat):Int)==0)=true:=by rw [beq_iff_eq];omega
   have HNO:Hid (res=none):=by unfold Hid;rw [HRES2.out,if_pos (.inl h0)]
   clear h0
   have HBE:=hD (Qal HS5.out.bel (show w.heap.size<=w.heap.size+3 by omega) (.slice none 0 0) (.int .i64 0) (.slice none 0 0) (.int .i64 0) (.slice none 0 0) (.slice none 0 0) (.slice none 0 0) (.slice none 0 0) (.slice none 0 0))
   have HRE:=hD (Qat HS5.out.res (.slice none 0 0) (.int .i64 0) (.slice none 0 0) (.int .i64 0) (.slice none 0 0) (.slice none 0 0) (.slice none 0 0) (.slice none 0 0) (.slice none 0 0))
   obtain ⟨⟨y0,y1,y2,y3,y4,y5,y6,y7,y8⟩,yz⟩:=Qam HS5.out.res
   go_wp2
   rw [HNO.out]
   refine bodyPost_ret (v := .tuple #[arrV nilS zeroP,.bool false]) ?_ rfl (Qie HBE.out)
   exact QaQ (fn:=Tryz.f8) (p:=8) (u:=9) rfl _ _ (w.heap.size+3) (by rfl) HRE.out
  ·have g1:(((N:Nat):Int)==0)=false:=by rw [beq_eq_false_iff_ne];omega
   by_cases h1:most < N
   ·have g2:((N:Nat):Int) > ((most:Nat):Int):=by omega
    have HNO:Hid (res=none):=by unfold Hid;rw [HRES2.out,if_pos (.inr h1)]
    clear h0 h1
    have HBE:=hD (Qal HS5.out.bel (show w.heap.size<=w.heap.size+3 by omega) (.slice none 0 0) (.int .i64 0) (.slice none 0 0) (.int .i64 0) (.slice none 0 0) (.slice none 0 0) (.slice none 0 0) (.slice none 0 0) (.slice none 0 0))
    have HRE:=hD (Qat HS5.out.res (.slice none 0 0) (.int .i64 0) (.slice none 0 0) (.int .i64 0) (.slice none 0 0) (.slice none 0 0) (.slice none 0 0) (.slice none 0 0) (.slice none 0 0))
    obtain ⟨⟨y0,y1,y2,y3,y4,y5,y6,y7,y8⟩,yz⟩:=Qam HS5.out.res
    go_wp2
    rw [HNO.out]
    refine bodyPost_ret (v := .tuple #[arrV nilS zeroP,.bool false]) ?_ rfl (Qie HBE.out)
    exact QaQ (fn:=Tryz.f8) (p:=8) (u:=9) rfl _ _ (w.heap.size+3) (by rfl) HRE.out
   ·have g2:¬ ((N:Nat):Int) > ((most:Nat):Int):=by omega
    have HRES3:Hid (res=(rowB (Qan F) L N).map oneA):=by unfold Hid;rw [HRES2.out,if_neg (by rintro (e | e);exact h0 e;exact h1 e)]
    clear h0 h1 HRES2
    obtain ⟨f,hfe⟩:∃ f,f=Qan F:=⟨_,rfl⟩
    have HFF:=HF.out
    rw [<- hfe] at HFF HRES3 HCF
    clear hfe HF
    have hFf:=HFF
    clear HFF
    obtain ⟨⟨c0,c1,c2⟩,-⟩:=Qel HS5.out
    rcases hFf with e | e | e | e | e
    ·subst e
     have HR:Hid (res=some (oneA (cnt L N:Nat))):=by unfold Hid;rw [HRES3.out];rfl
     clear HRES3
     go_wp2_with fail
     refine (HCF.out _).mono ?_
     rintro e w6 ⟨rfl,hb6⟩
     have HS6:=hD (HS5.out.step hb6)
     have HX6:Hid (w6.heap[w3.heap.size]?=some (.cells #[.slice ub.1 ub.2.1 ub.2.2,.int .i64 (N:Int)] 33)):=by unfold Hid;rw [hb6.block _ (lt_blk HX5.out)];exact HX5.out
     have HBI6:=hD (HBI5.out.below hb6)
     have HTZ6:=hD (HTZ5.out.below hb6)
     clear hb6 HS5 HX5 HBI5 HTZ5 c0 c1 c2
     obtain ⟨d0,d1,d2⟩:=Qaj HX6.out
     go_wp2_with fail
     refine (Qht _ N L _ (by have:=HNL.out;omega) HBI6.out).mono ?_
     rintro e w8 ⟨rfl,hb8⟩
     have HS8:=hD (HS6.out.step hb8)
     clear hb8 HS6 HX6 HBI6 HTZ6 d0 d1 d2
     have hcn:cnt L N<=N:=Qcj L N
     go_wp2_with fail
     refine (QrZ (cnt L N:Nat) (by have:=HNL.out;constructor <;> omega) (fun b=>H b\/b=w.heap.size+3) _ (fun b e=>by rcases e with e | e;have h1:=HH.out b e;have h2:=lt_blk HS8.out.res;omega;have h2:=lt_blk HS8.out.res;omega)).mono ?_
     rintro e w9 ⟨h9,p9,rfl,hav,hb9⟩
     have HS9:=hD (HS8.out.step hb9)
     have HAV:Hid (AV H (set9 w9 (w.heap.size+3) (sv h9) (.int .i64 p9.k) (sv p9.b) (.int .i64 p9.bn) (sv p9.s) (sv p9.i) (sv p9.f) (sv p9.c) (sv p9.x)) (oneA (cnt L N:Nat)) h9 p9):=AV.sub (fun b _ e => .inl e) (AV.lat (Lat.set9 (G:=w.heap.size+3) (.inr rfl) _ _ _ _ _ _ _ _ _) hav)
     clear hav hb9 HS8 hcn
     obtain ⟨⟨y0,y1,y2,y3,y4,y5,y6,y7,y8⟩,yz⟩:=Qam HS9.out.res
     have HBE:=hD (Qal HS9.out.bel (show w.heap.size<=w.heap.size+3 by omega) (sv h9) (.int .i64 p9.k) (sv p9.b) (.int .i64 p9.bn) (sv p9.s) (sv p9.i) (sv p9.f) (sv p9.c) (sv p9.x))
     have HRE:=hD (Qat HS9.out.res (sv h9) (.int .i64 p9.k) (sv p9.b) (.int .i64 p9.bn) (sv p9.s) (sv p9.i) (sv p9.f) (sv p9.c) (sv p9.x))
     go_wp2
     rw [HR.out]
     refine bodyPost_ret (v := .tuple #[arrV h9 p9,.bool true]) ?_ rfl (QfG HAV.out HBE.out)
     exact QaQ (fn:=Tryz.f8) (p:=8) (u:=9) rfl _ _ (w.heap.size+3) (by rfl) HRE.out
    ·subst e
     have HR:Hid (res=some (.nums [] [Qai (decide (cnt L N=N))])):=by unfold Hid;rw [HRES3.out,QaT,<- QoY];rfl
     clear HRES3
     go_wp2_with fail
     refine (HCF.out _).mono ?_
     rintro e w6 ⟨rfl,hb6⟩
     have HS6:=hD (HS5.out.step hb6)
     have HX6:Hid (w6.heap[w3.heap.size]?=some (.cells #[.slice ub.1 ub.2.1 ub.2.2,.int .i64 (N:Int)] 33)):=by unfold Hid;rw [hb6.block _ (lt_blk HX5.out)];exact HX5.out
     have HBI6:=hD (HBI5.out.below hb6)
     have HTZ6:=hD (HTZ5.out.below hb6)
     clear hb6 HS5 HX5 HBI5 HTZ5 c0 c1 c2
     obtain ⟨d0,d1,d2⟩:=Qaj HX6.out
     go_wp2_with fail
     refine (QjE _ N L _ (by have:=HNL.out;omega) HBI6.out).mono ?_
     rintro e w7 ⟨rfl,hb7⟩
     have HS7:=hD (HS6.out.step hb7)
     clear hb7 HS6 HX6 HBI6 HTZ6 d0 d1 d2
     go_wp2_with fail
     refine (QdU _ _).mono ?_
     rintro e w8 ⟨rfl,hb8⟩
     have HS8:=hD (HS7.out.step hb8)
     clear hb8 HS7
     go_wp2_with fail
     refine (QdO _ (Qcs _) (fun b=>H b\/b=w.heap.size+3) _ (fun b e=>by rcases e with e | e;have h1:=HH.out b e;have h2:=lt_blk HS8.out.res;omega;have h2:=lt_blk HS8.out.res;omega)).mono ?_
     rintro e w9 ⟨h9,p9,rfl,hav,hb9⟩
     obtain ⟨W,hW⟩:∃ W,W=w9.alloc (arrO h9 p9):=⟨_,rfl⟩
     have hb10:Below w9.heap.size w9 W:=by rw [hW];exact bel1 _ _
     have HS9:=hD ((HS8.out.step hb9).step hb10)
     have HAV:Hid (AV H (set9 W (w.heap.size+3) (sv h9) (.int .i64 p9.k) (sv p9.b) (.int .i64 p9.bn) (sv p9.s) (sv p9.i) (sv p9.f) (sv p9.c) (sv p9.x)) (.nums [] [Qai (decide (cnt L N=N))]) h9 p9):=AV.sub (fun b _ e => .inl e) (AV.lat (Lat.set9 (G:=w.heap.size+3) (.inr rfl) _ _ _ _ _ _ _ _ _) (AV.step hav hb10))
     have HBX:Hid (At9 W w9.heap.size 0 h9 p9):=by unfold Hid;rw [hW];exact QaV w9 h9 p9
     have HWE:=hD hW
     clear hav hb9 hb10 HS8 hW
     go_upto_region 22 with fail
     rw [<- HWE.out]
     obtain ⟨q0,q1,q2,q3,q4,q5,q6,q7,q8⟩:=HBX.out.c
     obtain ⟨⟨y0,y1,y2,y3,y4,y5,y6,y7,y8⟩,yz⟩:=Qam HS9.out.res
     have HBE:=hD (Qal HS9.out.bel (show w.heap.size<=w.heap.size+3 by omega) (sv h9) (.int .i64 p9.k) (sv p9.b) (.int .i64 p9.bn) (sv p9.s) (sv p9.i) (sv p9.f) (sv p9.c) (sv p9.x))
     have HRE:=hD (Qat HS9.out.res (sv h9) (.int .i64 p9.k) (sv p9.b) (.int .i64 p9.bn) (sv p9.s) (sv p9.i) (sv p9.f) (sv p9.c) (sv p9.x))
     go_wp2
     rw [HR.out]
     refine bodyPost_ret (v := .tuple #[arrV h9 p9,.bool true]) ?_ rfl (QfG HAV.out HBE.out)
     exact QaQ (fn:=Tryz.f8) (p:=8) (u:=9) rfl _ _ (w.heap.size+3) (by rfl) HRE.out
    ·subst e
     have HR:Hid (res=some (.nums [] [Qai (!decide (cnt L N=0))])):=by unfold Hid;rw [HRES3.out,QaT,<- QoY,<- decide_not];rfl
     clear HRES3
     go_wp2_with fail
     refine (HCF.out _).mono ?_
     rintro e w6 ⟨rfl,hb6⟩
     have HS6:=hD (HS5.out.step hb6)
     have HX6:Hid (w6.heap[w3.heap.size]?=some (.cells #[.slice ub.1 ub.2.1 ub.2.2,.int .i64 (N:Int)] 33)):=by unfold Hid;rw [hb6.block _ (lt_blk HX5.out)];exact HX5.out
     have HBI6:=hD (HBI5.out.below hb6)
     have HTZ6:=hD (HTZ5.out.below hb6)
     clear hb6 HS5 HX5 HBI5 HTZ5 c0 c1 c2
     obtain ⟨d0,d1,d2⟩:=Qaj HX6.out
     go_wp2_with fail
     refine (QjF _ N L _ (by have:=HNL.out;omega) HBI6.out HTZ6.out).mono ?_
     rintro e w7 ⟨rfl,hb7⟩
     have HS7:=hD (HS6.out.step hb7)
     clear hb7 HS6 HX6 HBI6 HTZ6 d0 d1 d2
     go_wp2_with fail
     refine (QdU _ _).mono ?_
     rintro e w8 ⟨rfl,hb8⟩
     have HS8:=hD (HS7.out.step hb8)
     clear hb8 HS7
     go_wp2_with fail
     refine (QdO _ (Qcs _) (fun b=>H b\/b=w.heap.size+3) _ (fun b e=>by rcases e with e | e;have h1:=HH.out b e;have h2:=lt_blk HS8.out.res;omega;have h2:=lt_blk HS8.out.res;omega)).mono ?_
     rintro e w9 ⟨h9,p9,rfl,hav,hb9⟩
     obtain ⟨W,hW⟩:∃ W,W=w9.alloc (arrO h9 p9):=⟨_,rfl⟩
     have hb10:Below w9.heap.size w9 W:=by rw [hW];exact bel1 _ _
     have HS9:=hD ((HS8.out.step hb9).step hb10)
     have HAV:Hid (AV H (set9 W (w.heap.size+3) (sv h9) (.int .i64 p9.k) (sv p9.b) (.int .i64 p9.bn) (sv p9.s) (sv p9.i) (sv p9.f) (sv p9.c) (sv p9.x)) (.nums [] [Qai (!decide (cnt L N=0))]) h9 p9):=AV.sub (fun b _ e => .inl e) (AV.lat (Lat.set9 (G:=w.heap.size+3) (.inr rfl) _ _ _ _ _ _ _ _ _) (AV.step hav hb10))
     have HBX:Hid (At9 W w9.heap.size 0 h9 p9):=by unfold Hid;rw [hW];exact QaV w9 h9 p9
     have HWE:=hD hW
     clear hav hb9 hb10 HS8 hW
     go_upto_region 26 with fail
     rw [<- HWE.out]
     obtain ⟨q0,q1,q2,q3,q4,q5,q6,q7,q8⟩:=HBX.out.c
     obtain ⟨⟨y0,y1,y2,y3,y4,y5,y6,y7,y8⟩,yz⟩:=Qam HS9.out.res
     have HBE:=hD (Qal HS9.out.bel (show w.heap.size<=w.heap.size+3 by omega) (sv h9) (.int .i64 p9.k) (sv p9.b) (.int .i64 p9.bn) (sv p9.s) (sv p9.i) (sv p9.f) (sv p9.c) (sv p9.x))
     have HRE:=hD (Qat HS9.out.res (sv h9) (.int .i64 p9.k) (sv p9.b) (.int .i64 p9.bn) (sv p9.s) (sv p9.i) (sv p9.f) (sv p9.c) (sv p9.x))
     go_wp2
     rw [HR.out]
     refine bodyPost_ret (v := .tuple #[arrV h9 p9,.bool true]) ?_ rfl (QfG HAV.out HBE.out)
     exact QaQ (fn:=Tryz.f8) (p:=8) (u:=9) rfl _ _ (w.heap.size+3) (by rfl) HRE.out
    ·subst e
     have HR:Hid (res=some (.nums [] [Qai (!decide (cnt L N=0))])):=by unfold Hid;rw [HRES3.out,QaT,<- QoY,<- decide_not];rfl
     clear HRES3
     go_wp2_with fail
     refine (HCF.out _).mono ?_
     rintro e w6 ⟨rfl,hb6⟩
     have HS6:=hD (HS5.out.step hb6)
     have HX6:Hid (w6.heap[w3.heap.size]?=some (.cells #[.slice ub.1 ub.2.1 ub.2.2,.int .i64 (N:Int)] 33)):=by unfold Hid;rw [hb6.block _ (lt_blk HX5.out)];exact HX5.out
     have HBI6:=hD (HBI5.out.below hb6)
     have HTZ6:=hD (HTZ5.out.below hb6)
     clear hb6 HS5 HX5 HBI5 HTZ5 c0 c1 c2
     obtain ⟨d0,d1,d2⟩:=Qaj HX6.out
     go_wp2_with fail
     refine (QjF _ N L _ (by have:=HNL.out;omega) HBI6.out HTZ6.out).mono ?_
     rintro e w7 ⟨rfl,hb7⟩
     have HS7:=hD (HS6.out.step hb7)
     clear hb7 HS6 HX6 HBI6 HTZ6 d0 d1 d2
     go_wp2_with fail
     refine (QdU _ _).mono ?_
     rintro e w8 ⟨rfl,hb8⟩
     have HS8:=hD (HS7.out.step hb8)
     clear hb8 HS7
     go_wp2_with fail
     refine (QdO _ (Qcs _) (fun b=>H b\/b=w.heap.size+3) _ (fun b e=>by rcases e with e | e;have h1:=HH.out b e;have h2:=lt_blk HS8.out.res;omega;have h2:=lt_blk HS8.out.res;omega)).mono ?_
     rintro e w9 ⟨h9,p9,rfl,hav,hb9⟩
     obtain ⟨W,hW⟩:∃ W,W=w9.alloc (arrO h9 p9):=⟨_,rfl⟩
     have hb10:Below w9.heap.size w9 W:=by rw [hW];exact bel1 _ _
     have HS9:=hD ((HS8.out.step hb9).step hb10)
     have HAV:Hid (AV H (set9 W (w.heap.size+3) (sv h9) (.int .i64 p9.k) (sv p9.b) (.int .i64 p9.bn) (sv p9.s) (sv p9.i) (sv p9.f) (sv p9.c) (sv p9.x)) (.nums [] [Qai (!decide (cnt L N=0))]) h9 p9):=AV.sub (fun b _ e => .inl e) (AV.lat (Lat.set9 (G:=w.heap.size+3) (.inr rfl) _ _ _ _ _ _ _ _ _) (AV.step hav hb10))
     have HBX:Hid (At9 W w9.heap.size 0 h9 p9):=by unfold Hid;rw [hW];exact QaV w9 h9 p9
     have HWE:=hD hW
     clear hav hb9 hb10 HS8 hW
     go_upto_region 26 with fail
     rw [<- HWE.out]
     obtain ⟨q0,q1,q2,q3,q4,q5,q6,q7,q8⟩:=HBX.out.c
     obtain ⟨⟨y0,y1,y2,y3,y4,y5,y6,y7,y8⟩,yz⟩:=Qam HS9.out.res
     have HBE:=hD (Qal HS9.out.bel (show w.heap.size<=w.heap.size+3 by omega) (sv h9) (.int .i64 p9.k) (sv p9.b) (.int .i64 p9.bn) (sv p9.s) (sv p9.i) (sv p9.f) (sv p9.c) (sv p9.x))
     have HRE:=hD (Qat HS9.out.res (sv h9) (.int .i64 p9.k) (sv p9.b) (.int .i64 p9.bn) (sv p9.s) (sv p9.i) (sv p9.f) (sv p9.c) (sv p9.x))
     go_wp2
     rw [HR.out]
     refine bodyPost_ret (v := .tuple #[arrV h9 p9,.bool true]) ?_ rfl (QfG HAV.out HBE.out)
     exact QaQ (fn:=Tryz.f8) (p:=8) (u:=9) rfl _ _ (w.heap.size+3) (by rfl) HRE.out
    ·subst e
     have HR:Hid (res=some (.nums [] [Qai (decide (cnt L N=N))])):=by unfold Hid;rw [HRES3.out,QaT,<- QoY];rfl
     clear HRES3
     go_wp2_with fail
     refine (HCF.out _).mono ?_
     rintro e w6 ⟨rfl,hb6⟩
     have HS6:=hD (HS5.out.step hb6)
     have HX6:Hid (w6.heap[w3.heap.size]?=some (.cells #[.slice ub.1 ub.2.1 ub.2.2,.int .i64 (N:Int)] 33)):=by unfold Hid;rw [hb6.block _ (lt_blk HX5.out)];exact HX5.out
     have HBI6:=hD (HBI5.out.below hb6)
     have HTZ6:=hD (HTZ5.out.below hb6)
     clear hb6 HS5 HX5 HBI5 HTZ5 c0 c1 c2
     obtain ⟨d0,d1,d2⟩:=Qaj HX6.out
     go_wp2_with fail
     refine (QjE _ N L _ (by have:=HNL.out;omega) HBI6.out).mono ?_
     rintro e w7 ⟨rfl,hb7⟩
     have HS7:=hD (HS6.out.step hb7)
     clear hb7 HS6 HX6 HBI6 HTZ6 d0 d1 d2
     go_wp2_with fail
     refine (QdU _ _).mono ?_
     rintro e w8 ⟨rfl,hb8⟩
     have HS8:=hD (HS7.out.step hb8)
     clear hb8 HS7
     go_wp2_with fail
     refine (QdO _ (Qcs _) (fun b=>H b\/b=w.heap.size+3) _ (fun b e=>by rcases e with e | e;have h1:=HH.out b e;have h2:=lt_blk HS8.out.res;omega;have h2:=lt_blk HS8.out.res;omega)).mono ?_
     rintro e w9 ⟨h9,p9,rfl,hav,hb9⟩
     obtain ⟨W,hW⟩:∃ W,W=w9.alloc (arrO h9 p9):=⟨_,rfl⟩
     have hb10:Below w9.heap.size w9 W:=by rw [hW];exact bel1 _ _
     have HS9:=hD ((HS8.out.step hb9).step hb10)
     have HAV:Hid (AV H (set9 W (w.heap.size+3) (sv h9) (.int .i64 p9.k) (sv p9.b) (.int .i64 p9.bn) (sv p9.s) (sv p9.i) (sv p9.f) (sv p9.c) (sv p9.x)) (.nums [] [Qai (decide (cnt L N=N))]) h9 p9):=AV.sub (fun b _ e => .inl e) (AV.lat (Lat.set9 (G:=w.heap.size+3) (.inr rfl) _ _ _ _ _ _ _ _ _) (AV.step hav hb10))
     have HBX:Hid (At9 W w9.heap.size 0 h9 p9):=by unfold Hid;rw [hW];exact QaV w9 h9 p9
     have HWE:=hD hW
     clear hav hb9 hb10 HS8 hW
     go_upto_region 22 with fail
     rw [<- HWE.out]
     obtain ⟨q0,q1,q2,q3,q4,q5,q6,q7,q8⟩:=HBX.out.c
     obtain ⟨⟨y0,y1,y2,y3,y4,y5,y6,y7,y8⟩,yz⟩:=Qam HS9.out.res
     have HBE:=hD (Qal HS9.out.bel (show w.heap.size<=w.heap.size+3 by omega) (sv h9) (.int .i64 p9.k) (sv p9.b) (.int .i64 p9.bn) (sv p9.s) (sv p9.i) (sv p9.f) (sv p9.c) (sv p9.x))
     have HRE:=hD (Qat HS9.out.res (sv h9) (.int .i64 p9.k) (sv p9.b) (.int .i64 p9.bn) (sv p9.s) (sv p9.i) (sv p9.f) (sv p9.c) (sv p9.x))
     go_wp2
     rw [HR.out]
     refine bodyPost_ret (v := .tuple #[arrV h9 p9,.bool true]) ?_ rfl (QfG HAV.out HBE.out)
     exact QaQ (fn:=Tryz.f8) (p:=8) (u:=9) rfl _ _ (w.heap.size+3) (by rfl) HRE.out
end Go.Proofs.YtdelgpelkfndeaaGreatDoor
