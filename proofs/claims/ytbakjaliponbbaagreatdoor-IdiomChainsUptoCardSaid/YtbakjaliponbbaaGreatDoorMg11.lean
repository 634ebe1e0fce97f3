/- Tidy of a good plain array is the plain array of its array. What a function of two numbers makes of two arrays: plain law. How many elements an array and those .. Conditions: as each theorem says. -/
import Derived.Test.YtbakjaliponbbaaGreatDoorMg10
import Derived.Test.YtbakjaliponbbaaGreatDoorMg07
import Derived.Test.YtbakjaliponbbaaGreatDoorMg06
import Derived.Test.YtbakjaliponbbaaGreatDoorMg04
import Derived.Test.YtbakjaliponbbaaGreatDoorMg02
import Derived.Test.YtbakjaliponbbaaGreatDoorMg08
import Derived.StillTailTactics
import Derived.Test.YtbakjaliponbbaaGreatDoorMg03
set_option maxRecDepth 100000
set_option maxHeartbeats 2000000
namespace Go.Proofs.YtbakjaliponbbaaGreatDoor
open Go Go.RowKit Go.Proofs Fl
theorem raw_0 (sn:List Nat) (items:List RI):rawP (clP (.mk (sn.map Int.ofNat) items 0))= .mk (sn.map Int.ofNat) (items.map fun t=>RI.mk 0 (tidF t.numOf) 0 []) 0:=by
 rw [clP,toNat_of,if_pos rfl,rawP,List.map_map]
 rfl
theorem raw_1 (sn:List Nat) (items:List RI):rawP (clP (.mk (sn.map Int.ofNat) items 1))= .mk (sn.map Int.ofNat) (items.map fun t=>RI.mk 1 0 t.charOf []) 1:=by
 rw [clP,toNat_of,if_neg (by decide),if_pos rfl,rawP,List.map_map]
 rfl
theorem raw_2 (sn:List Nat) (items:List RI):rawP (clP (.mk (sn.map Int.ofNat) items 2))= .mk (sn.map Int.ofNat) (rawBs (clIs items)) 2:=by
 rw [clP,toNat_of,if_neg (by decide),if_neg (by decide),rawP]
theorem tidy_walk:∀ (d:Nat) (H:Nat->Prop) (t:RP) (h x:Sl) (f:Int) (w:World),(∀ b,H b->b < w.heap.size)->OkP d t->cntP t<=1048576->PV H w t h x f ->
  Calls Tryz.prog 20 #[plV h x f] w (PlR H w (rawP (clP t)) f)
 | 0,_,.mk s items fill,_,_,_,_,_,hok,_,_=>by rw [OkP] at hok;exact absurd hok.1 (Nat.lt_irrefl _)
 | d+1,H,.mk s items fill,h,x,f,w,hH,hok,hM,hr=>by
  obtain ⟨_,rfl,_,_⟩:=hr.open_
  rw [OkP] at hok
  obtain ⟨_,hf,⟨sn,rfl,_⟩,hi⟩:=hok
  rcases hf with rfl | rfl | rfl
  ·rw [raw_0];exact td_0 H d _ items h x w hH hi hM hr
  ·rw [raw_1];exact td_1 H d _ items h x w hH hi hM hr
  ·rw [raw_2];exact td_2 H d (fun H t h x f w h0 h1 h2 h3=>tidy_walk d H t h x f w h0 h1 h2 h3) _ items h x w hH hi hM hr
def partA:PA->Nat->PA
 | .nums _ l,i => .nums [] [l.getD (ixP l.length i) 0]
 | .chars _ l,i => .chars [] [l.getD (ixP l.length i) 0]
 | .boxes _ l,i=>l.getD (ixP l.length i) default
theorem partA_good {a:PA}{d i:Nat} (ha:GoodA d a) (hi:ixP a.len i < a.len):GoodA d (partA a i):=by
 have h1:OkSh [] 1:=⟨by decide,by decide,rfl⟩
 cases a with
 | nums s l =>
  have h:=ha.nums _ hi
  rw [GoodA] at ha
  show GoodA d (.nums [] [l.getD _ _])
  rw [GoodA]
  refine ⟨ha.1,h1,fun x hx=>?_⟩
  obtain rfl:x=l.getD (ixP l.length i) 0:=by simpa using hx
  exact h
 | chars s l =>
  rw [GoodA] at ha
  show GoodA d (.chars [] [l.getD _ _])
  rw [GoodA]
  exact ⟨ha.1,h1⟩
 | boxes s l =>
  have hi':ixP l.length i < l.length:=hi
  have h:=ha.boxes _ hi'
  show GoodA d (l.getD _ _)
  have e:l.getD (ixP l.length i) default=l[ixP l.length i]:=by simp [List.getD,hi']
  rw [e]
  exact h.up (by omega)
mutual
def SmA (M:Nat):PA->Prop
 | .nums _ l=>l.length<=M
 | .chars _ l=>l.length<=M
 | .boxes _ l=>l.length<=M/\SmAs M l
def SmAs (M:Nat):List PA->Prop
 | []=>True
 | a::ar=>SmA M a/\SmAs M ar
end
theorem smAs_at {M:Nat}:∀ {l:List PA}{i:Nat} (hi:i < l.length),SmAs M l->SmA M l[i]
 | [],_,hi,_=>by simp at hi
 | a::ar,0,_,h=>by rw [SmAs] at h;exact h.1
 | a::ar,i+1,hi,h=>by rw [SmAs] at h;simpa using smAs_at (l:=ar) (i:=i) (by simpa using hi) h.2
theorem SmA.len {M:Nat}{a:PA} (h:SmA M a):a.len<=M:=by
 cases a <;> (rw [SmA] at h;first | exact h | exact h.1)
theorem SmA.boxes {M:Nat}{s:List Nat}{l:List PA} (h:SmA M (.boxes s l)):∀ i (hi:i < l.length),SmA M l[i]:=by
 rw [SmA] at h
 exact fun i hi=>smAs_at hi h.2
mutual
theorem SmA.up {M M':Nat} (hm:M<=M'):∀ (a:PA),SmA M a->SmA M' a
 | .nums s l,h=>by rw [SmA] at h ⊢;omega
 | .chars s l,h=>by rw [SmA] at h ⊢;omega
 | .boxes s l,h=>by rw [SmA] at h ⊢;exact ⟨by omega,SmAs.up hm l h.2⟩
theorem SmAs.up {M M':Nat} (hm:M<=M'):∀ (l:List PA),SmAs M l->SmAs M' l
 | [],_=>by rw [SmAs];trivial
 | a::ar,h=>by rw [SmAs] at h ⊢;exact ⟨SmA.up hm a h.1,SmAs.up hm ar h.2⟩
end
mutual
theorem smP {M:Nat}:∀ (t:RP),cntP t<=M->SmA M (clP t)
 | .mk s items fill,h=>by
  rw [cntP] at h
  rw [clP]
  split
  ·rw [SmA,List.length_map];omega
  ·split
   ·rw [SmA,List.length_map];omega
   ·rw [SmA];exact ⟨by rw [clIs_len];omega,smIs items (by omega)⟩
theorem smIs {M:Nat}:∀ (ts:List RI),cntIs ts<=M->SmAs M (clIs ts)
 | [],_=>by rw [clIs,SmAs];trivial
 | t::ts,h=>by rw [cntIs] at h;rw [clIs,SmAs];exact ⟨smI t (by omega),smIs ts (by omega)⟩
theorem smI {M:Nat}:∀ (t:RI),cntI t<=M->SmA M (clI t)
 | .mk _ _ _ box,h=>by rw [cntI] at h;rw [clI];exact smPs box h
theorem smPs {M:Nat}:∀ (ts:List RP),cntPs ts<=M->SmA M (clPs ts)
 | [],_=>by rw [clPs,SmA];exact Nat.zero_le _
 | t::ts,h=>by rw [cntPs] at h;rw [clPs];exact smP t (by omega)
end
mutual
def TfP:RP->Prop
 | .mk _ items _=>TfIs items
def TfIs:List RI->Prop
 | []=>True
 | t::ts=>TfI t/\TfIs ts
def TfI:RI->Prop
 | .mk _ n _ box=>TF n/\TfPs box
def TfPs:List RP->Prop
 | []=>True
 | t::ts=>TfP t/\TfPs ts
end
theorem tfIs_at:∀ {ts:List RI}{i:Nat} (hi:i < ts.length),TfIs ts->TfI ts[i]
 | [],_,hi,_=>by simp at hi
 | t::ts,0,_,h=>by rw [TfIs] at h;exact h.1
 | t::ts,i+1,hi,h=>by rw [TfIs] at h;simpa using tfIs_at (ts:=ts) (i:=i) (by simpa using hi) h.2
theorem tfIs_of:∀ (ts:List RI),(∀ i (hi:i < ts.length),TfI ts[i])->TfIs ts
 | [],_=>by rw [TfIs];trivial
 | t::ts,h=>by
  rw [TfIs]
  exact ⟨by have:=h 0 (by simp);simpa using this,tfIs_of ts fun i hi=>by have:=h (i+1) (by simpa using hi);simpa using this⟩
theorem tfPs_at:∀ {ts:List RP}{i:Nat} (hi:i < ts.length),TfPs ts->TfP ts[i]
 | [],_,hi,_=>by simp at hi
 | t::ts,0,_,h=>by rw [TfPs] at h;exact h.1
 | t::ts,i+1,hi,h=>by rw [TfPs] at h;simpa using tfPs_at (ts:=ts) (i:=i) (by simpa using hi) h.2
mutual
theorem tf_raw:∀ (d:Nat) (a:PA),GoodA d a->TfP (rawP a)
 | d,.nums s l,h=>by
  rw [rawP,TfP]
  rw [GoodA] at h
  refine tfIs_of _ fun i hi=>?_
  rw [List.getElem_map,TfI,TfPs]
  exact ⟨h.2.2 _ (List.getElem_mem _),trivial⟩
 | d,.chars s l,h=>by
  rw [rawP,TfP]
  refine tfIs_of _ fun i hi=>?_
  rw [List.getElem_map,TfI,TfPs]
  exact ⟨tf_zero,trivial⟩
 | d,.boxes s l,h=>by
  rw [GoodA] at h
  rw [rawP,TfP]
  exact tf_rawBs (d - 1) l h.2.2
theorem tf_rawBs:∀ (d:Nat) (l:List PA),GoodAs d l->TfIs (rawBs l)
 | _,[],_=>by rw [rawBs,TfIs];trivial
 | d,a::ar,h=>by
  rw [GoodAs] at h
  rw [rawBs,TfIs,TfI,TfPs,TfPs]
  exact ⟨⟨tf_zero,tf_raw d a h.1,trivial⟩,tf_rawBs d ar h.2⟩
end
mutual
def LnP:RP->Prop
 | .mk s items _=>s.length<=1048576/\items.length<=1048576/\LnIs items
def LnIs:List RI->Prop
 | []=>True
 | t::ts=>LnI t/\LnIs ts
def LnI:RI->Prop
 | .mk _ _ _ box=>box.length<=1048576/\LnPs box
def LnPs:List RP->Prop
 | []=>True
 | t::ts=>LnP t/\LnPs ts
end
theorem lnIs_at:∀ {ts:List RI}{i:Nat} (hi:i < ts.length),LnIs ts->LnI ts[i]
 | [],_,hi,_=>by simp at hi
 | t::ts,0,_,h=>by rw [LnIs] at h;exact h.1
 | t::ts,i+1,hi,h=>by rw [LnIs] at h;simpa using lnIs_at (ts:=ts) (i:=i) (by simpa using hi) h.2
theorem lnIs_of:∀ (ts:List RI),(∀ i (hi:i < ts.length),LnI ts[i])->LnIs ts
 | [],_=>by rw [LnIs];trivial
 | t::ts,h=>by
  rw [LnIs]
  exact ⟨by have:=h 0 (by simp);simpa using this,lnIs_of ts fun i hi=>by have:=h (i+1) (by simpa using hi);simpa using this⟩
theorem lnPs_at:∀ {ts:List RP}{i:Nat} (hi:i < ts.length),LnPs ts->LnP ts[i]
 | [],_,hi,_=>by simp at hi
 | t::ts,0,_,h=>by rw [LnPs] at h;exact h.1
 | t::ts,i+1,hi,h=>by rw [LnPs] at h;simpa using lnPs_at (ts:=ts) (i:=i) (by simpa using hi) h.2
mutual
theorem ln_raw:∀ (d:Nat) (a:PA),GoodA d a->SmA 1000000 a->LnP (rawP a)
 | d,.nums s l,h,hs=>by
  have h8:s.length<=8:=h.sh.2.1
  have hl:l.length<=1000000:=hs.len
  rw [rawP,LnP,List.length_map,List.length_map]
  refine ⟨by omega,by omega,lnIs_of _ fun i hi=>?_⟩
  rw [List.getElem_map,LnI,LnPs]
  exact ⟨by simp,trivial⟩
 | d,.chars s l,h,hs=>by
  have h8:s.length<=8:=h.sh.2.1
  have hl:l.length<=1000000:=hs.len
  rw [rawP,LnP,List.length_map,List.length_map]
  refine ⟨by omega,by omega,lnIs_of _ fun i hi=>?_⟩
  rw [List.getElem_map,LnI,LnPs]
  exact ⟨by simp,trivial⟩
 | d,.boxes s l,h,hs=>by
  have h8:s.length<=8:=h.sh.2.1
  have hl:l.length<=1000000:=hs.len
  rw [GoodA] at h
  rw [SmA] at hs
  rw [rawP,LnP,List.length_map,rawBs_len]
  exact ⟨by omega,by omega,ln_rawBs (d - 1) l h.2.2 hs.2⟩
theorem ln_rawBs:∀ (d:Nat) (l:List PA),GoodAs d l->SmAs 1000000 l->LnIs (rawBs l)
 | _,[],_,_=>by rw [rawBs,LnIs];trivial
 | d,a::ar,h,hs=>by
  rw [GoodAs] at h
  rw [SmAs] at hs
  rw [rawBs,LnIs,LnI,LnPs,LnPs]
  exact ⟨⟨by simp,ln_raw d a h.1 hs.1,trivial⟩,ln_rawBs d ar h.2 hs.2⟩
end
abbrev itO (k:Int) (n:Nat) (c:Int) (x:Sl):Obj := .cells #[.int .i64 k,.float .f64 n,.int .i32 c,.slice x.1 x.2.1 x.2.2] 106
abbrev plO (h x:Sl) (f:Int):Obj := .cells #[.slice h.1 h.2.1 h.2.2,.slice x.1 x.2.1 x.2.2,.int .i64 f] 44
theorem at4_c {w:World}{b:Nat}{k:Int}{n:Nat}{c:Int}{x:Sl} (g:At4 w b 0 k n c x):w.cell? ⟨b,0,none⟩=some (.int .i64 k)/\w.cell? ⟨b,1,none⟩=some (.float .f64 n)/\w.cell? ⟨b,2,none⟩=some (.int .i32 c)/\w.cell? ⟨b,3,none⟩=some (.slice x.1 x.2.1 x.2.2):=g
theorem at3_c {w:World}{b:Nat}{h x:Sl}{f:Int} (g:At3 w b 0 h x f):w.cell? ⟨b,0,none⟩=some (.slice h.1 h.2.1 h.2.2)/\w.cell? ⟨b,1,none⟩=some (.slice x.1 x.2.1 x.2.2)/\w.cell? ⟨b,2,none⟩=some (.int .i64 f):=g
theorem at4_box (w:World) (k:Int) (n:Nat) (c:Int) (x:Sl):At4 (w.alloc (itO k n c x)) w.heap.size 0 k n c x:=by
 have h:=block4 (heap_alloc_new w (itO k n c x))
 exact h.1
theorem at3_box (w:World) (h x:Sl) (f:Int):At3 (w.alloc (plO h x f)) w.heap.size 0 h x f:=by
 have g:=block3 (heap_alloc_new w (plO h x f))
 exact g.1
structure Two3 (w:World) (h x h' x':Sl) (f:Int) (W:World):Prop where
 one:At3 W w.heap.size 0 h x f
 two:At3 W (w.heap.size+1) 0 h' x' f
 bel:Below w.heap.size w W
theorem Two3.new (w:World) (h x h' x':Sl) (f:Int):Two3 w h x h' x' f ((w.alloc (plO h x f)).alloc (plO h' x' f)):=by
 have g:=at3_box (w.alloc (plO h x f)) h' x' f
 have e:(w.alloc (plO h x f)).heap.size=w.heap.size+1:=by simp
 rw [e] at g
 exact ⟨(at3_box w h x f).of fun j=>(bel1 _ _).cell (p:=⟨w.heap.size,j,none⟩) (by simp),g,bel2 _ _ _⟩
theorem Two3.step {w W W':World}{h x h' x':Sl}{f:Int} (g:Two3 w h x h' x' f W) (hb:Below W.heap.size W W'):Two3 w h x h' x' f W' :=
 ⟨g.one.of fun j=>hb.cell (p:=⟨w.heap.size,j,none⟩) g.one.lt,g.two.of fun j=>hb.cell (p:=⟨w.heap.size+1,j,none⟩) g.two.lt,bel_both g.bel hb⟩
structure Two4 (w:World) (k:Int) (n:Nat) (c:Int) (x x':Sl) (W:World):Prop where
 one:At4 W w.heap.size 0 k n c x
 two:At4 W (w.heap.size+1) 0 k n c x'
 bel:Below w.heap.size w W
theorem Two4.new (w:World) (k:Int) (n:Nat) (c:Int) (x x':Sl):Two4 w k n c x x' ((w.alloc (itO k n c x)).alloc (itO k n c x')):=by
 have g:=at4_box (w.alloc (itO k n c x)) k n c x'
 have e:(w.alloc (itO k n c x)).heap.size=w.heap.size+1:=by simp
 rw [e] at g
 exact ⟨(at4_box w k n c x).of fun j=>(bel1 _ _).cell (p:=⟨w.heap.size,j,none⟩) (by simp),g,bel2 _ _ _⟩
theorem Two4.step {w W W':World}{k:Int}{n:Nat}{c:Int}{x x':Sl} (g:Two4 w k n c x x' W) (hb:Below W.heap.size W W'):Two4 w k n c x x' W' :=
 ⟨g.one.of fun j=>hb.cell (p:=⟨w.heap.size,j,none⟩) g.one.lt,g.two.of fun j=>hb.cell (p:=⟨w.heap.size+1,j,none⟩) g.two.lt,bel_both g.bel hb⟩
def SameC (t:RP):Prop:=∀ (H H':Nat->Prop) (h x h' x':Sl) (f f':Int) (w:World),PV H w t h x f->PV H' w t h' x' f' ->
  Calls Tryz.prog 92 #[plV h x f,plV h' x' f'] w fun e w'=>e= .returned (.bool true)/\Below w.heap.size w w'
theorem ritem_any (kind:Int) (num:Nat) (char:Int) (box:List RP) (hnum:TF num) (hl:box.length<=1048576) (hih:∀ i (hi:i < box.length),SameC box[i]) (H H':Nat->Prop) (k:Int) (n:Nat) (c:Int) (x:Sl) (k':Int) (n':Nat) (c':Int) (x':Sl) (w:World)
  (hp:IV H w (.mk kind num char box) k n c x) (hq:IV H' w (.mk kind num char box) k' n' c' x') :
  Calls Tryz.prog 133 #[itV k n c x,itV k' n' c' x'] w fun e w'=>e= .returned (.bool true)/\Below w.heap.size w w':=by
 obtain ⟨rfl,rfl,rfl,hx,hk⟩:=hp.open_
 obtain ⟨rfl,rfl,rfl,hx',hk'⟩:=hq.open_
 obtain ⟨A,m,cc⟩:=x
 obtain ⟨A',m',cc'⟩:=x'
 dsimp only at hx hx' hk hk'
 obtain rfl:m'=m:=by omega
 have hmb:m'<=1048576:=by omega
 have HM:=Lib.hid hx
 have HK:=Lib.hid hk
 have HK':=Lib.hid hk'
 have HIH:=Lib.hid hih
 unfold SameC at HIH
 have HBT:=Lib.hid (fun W=>bits_tf hnum W)
 have HT0:=Lib.hid (Two4.new w k' n' c' (A,m',cc) (A',m',cc'))
 have e1:(k' != k')=false:=by simp
 have e2:(c' != c')=false:=by simp
 have e3:((m':Int) != (m':Int))=false:=by simp
 obtain ⟨W,hW⟩:∃ W,W=(w.alloc (itO k' n' c' (A,m',cc))).alloc (itO k' n' c' (A',m',cc')):=⟨_,rfl⟩
 have HW:=Lib.hid hW
 rw [<- hW] at HT0
 clear hp hq hx hx' hk hk' hih hnum hl hW
 go_enter Tryz.func133,Tryz.ntmps133
 go_wp2_with fail
 rw [<- HW.out]
 refine (HBT.out _).mono ?_
 rintro e w' ⟨rfl,rfl⟩
 obtain ⟨a0,a1,a2,a3⟩:=at4_c HT0.out.one
 obtain ⟨b0,b1,b2,b3⟩:=at4_c HT0.out.two
 dsimp only at a3 b3
 go_wp2
 clear a0 a1 a2 a3 b0 b1 b2 b3
 go_loopw [5,5] (fun _ iv wr=>∃ i:Nat,i<=m'/\iv= .int .i64 (i:Int)/\Below W.heap.size W wr) (fun _ iv _=>m' - (intOf iv).toNat)
 case atStart=>exact ⟨0,Nat.zero_le _,rfl,Below.refl _ _⟩
 case round =>
  obtain ⟨i,hi,rfl,hbl⟩:=hrel
  have HTR:=Lib.hid (HT0.out.step hbl)
  obtain ⟨a0,a1,a2,a3⟩:=at4_c HTR.out.one
  obtain ⟨b0,b1,b2,b3⟩:=at4_c HTR.out.two
  dsimp only at a3 b3
  have HBL:=Lib.hid hbl
  by_cases hlt:i < m'
  ·have h1:i < box.length:=by have:=HM.out;omega
   obtain ⟨b,o,p0,p1,p2,rfl,-,hpv,hce⟩:=HK.out i h1
   obtain ⟨b',o',r0,r1,r2,rfl,-,hpv',hce'⟩:=HK'.out i h1
   obtain ⟨c0,c1,c2⟩:=hce _ (Lat.below HTR.out.bel)
   obtain ⟨d0,d1,d2⟩:=hce' _ (Lat.below HTR.out.bel)
   dsimp only [sv] at c0 c1 c2 d0 d1 d2
   have HIC:=Lib.hid (HIH.out i h1 _ _ p0 p1 r0 r1 p2 r2 _ (hpv.step (bel_both HTR.out.bel (below_drewN (Below.refl wr.heap.size wr) 1))) (hpv'.step (bel_both HTR.out.bel (below_drewN (Below.refl wr.heap.size wr) 1))))
   have hlt2:(i:Int) < (m':Int):=by omega
   clear hbl hce hce' hpv hpv'
   go_wp2
   go_still_tail 10,(by kernel_rfl)
   change wpList _ _ _ _ _ (wr.drewN 1)
   have HB1:=Lib.hid (bel_both HBL.out (below_drewN (Below.refl wr.heap.size wr) 1))
   clear a0 a1 a2 a3 b0 b1 b2 b3 c0 c1 c2 d0 d1 d2
   generalize wr.drewN 1=wd at *
   go_wp2_with fail
   refine HIC.out.mono ?_
   rintro e w2 ⟨rfl,hb⟩
   have HB2:=Lib.hid (bel_both HB1.out hb)
   clear hb
   go_wp2
   go_roundw
   case rel=>exact ⟨i+1,by omega,by go_num,HB2.out⟩
   case measure=>simp [intOf];omega
  ·have hlt2:¬ (i:Int) < (m':Int):=by omega
   clear hbl
   go_wp2
   go_ret
   exact ⟨rfl,HTR.out.bel⟩
theorem rsame_step (s:List Int) (items:List RI) (fill:Int) (hs:s.length<=1048576) (hl:items.length<=1048576)
  (hih:∀ i (hi:i < items.length) (H H':Nat->Prop) (k:Int) (n:Nat) (c:Int) (x:Sl) (k':Int) (n':Nat) (c':Int) (x':Sl) (w:World),IV H w items[i] k n c x->IV H' w items[i] k' n' c' x' ->
   Calls Tryz.prog 133 #[itV k n c x,itV k' n' c' x'] w fun e w'=>e= .returned (.bool true)/\Below w.heap.size w w') :
  SameC (.mk s items fill):=by
 intro H H' h x h' x' f f' w hp hq
 obtain ⟨hsr,rfl,hx,hk⟩:=hp.open_
 obtain ⟨hsr',rfl,hx',hk'⟩:=hq.open_
 obtain ⟨A,m,cc⟩:=x
 obtain ⟨A',m',cc'⟩:=x'
 dsimp only at hx hx' hk hk'
 obtain rfl:m'=m:=by omega
 have hmb:m'<=1048576:=by omega
 have HM:=Lib.hid hx
 have HK:=Lib.hid hk
 have HK':=Lib.hid hk'
 have HIH:=Lib.hid hih
 have HT0:=Lib.hid (Two3.new w h (A,m',cc) h' (A',m',cc') f')
 have e1:(f' != f')=false:=by simp
 have e3:((m':Int) != (m':Int))=false:=by simp
 obtain ⟨W,hW⟩:∃ W,W=(w.alloc (plO h (A,m',cc) f')).alloc (plO h' (A',m',cc') f'):=⟨_,rfl⟩
 have HW:=Lib.hid hW
 rw [<- hW] at HT0
 have HIN:=Lib.hid (ints_same (sv h) (sv h') s W (Keeps.lat hsr (Lat.below HT0.out.bel)).now (Keeps.lat hsr' (Lat.below HT0.out.bel)).now hs)
 clear hp hq hx hx' hk hk' hih hl hW hsr hsr' hs
 go_enter Tryz.func92,Tryz.ntmps92
 go_wp2_with fail
 rw [<- HW.out]
 refine HIN.out.mono ?_
 rintro e w1 ⟨rfl,hb⟩
 have HT1:=Lib.hid (HT0.out.step hb)
 clear hb HT0 HIN
 obtain ⟨a0,a1,a2⟩:=at3_c HT1.out.one
 obtain ⟨b0,b1,b2⟩:=at3_c HT1.out.two
 dsimp only at a1 b1
 go_wp2
 clear a0 a1 a2 b0 b1 b2
 go_loopw [5,5] (fun _ iv wr=>∃ i:Nat,i<=m'/\iv= .int .i64 (i:Int)/\Below w1.heap.size w1 wr) (fun _ iv _=>m' - (intOf iv).toNat)
 case atStart=>exact ⟨0,Nat.zero_le _,rfl,Below.refl _ _⟩
 case round =>
  obtain ⟨i,hi,rfl,hbl⟩:=hrel
  have HTR:=Lib.hid (HT1.out.step hbl)
  obtain ⟨a0,a1,a2⟩:=at3_c HTR.out.one
  obtain ⟨b0,b1,b2⟩:=at3_c HTR.out.two
  dsimp only at a1 b1
  have HBL:=Lib.hid hbl
  by_cases hlt:i < m'
  ·have h1:i < items.length:=by have:=HM.out;omega
   obtain ⟨b,o,p0,p1,p2,p3,rfl,-,hpv,hce⟩:=HK.out i h1
   obtain ⟨b',o',r0,r1,r2,r3,rfl,-,hpv',hce'⟩:=HK'.out i h1
   obtain ⟨c0,c1,c2,c3⟩:=hce _ (Lat.below HTR.out.bel)
   obtain ⟨d0,d1,d2,d3⟩:=hce' _ (Lat.below HTR.out.bel)
   dsimp only [sv] at c0 c1 c2 c3 d0 d1 d2 d3
   have HIC:=Lib.hid (HIH.out i h1 _ _ p0 p1 p2 p3 r0 r1 r2 r3 _ (hpv.step (bel_both HTR.out.bel (below_drewN (Below.refl wr.heap.size wr) 1))) (hpv'.step (bel_both HTR.out.bel (below_drewN (Below.refl wr.heap.size wr) 1))))
   have hlt2:(i:Int) < (m':Int):=by omega
   clear hbl hce hce' hpv hpv'
   go_wp2
   go_still_tail 10,(by kernel_rfl)
   change wpList _ _ _ _ _ (wr.drewN 1)
   have HB1:=Lib.hid (bel_both HBL.out (below_drewN (Below.refl wr.heap.size wr) 1))
   clear a0 a1 a2 b0 b1 b2 c0 c1 c2 c3 d0 d1 d2 d3
   generalize wr.drewN 1=wd at *
   go_wp2_with fail
   refine HIC.out.mono ?_
   rintro e w2 ⟨rfl,hb⟩
   have HB2:=Lib.hid (bel_both HB1.out hb)
   clear hb
   go_wp2
   go_roundw
   case rel=>exact ⟨i+1,by omega,by go_num,HB2.out⟩
   case measure=>simp [intOf];omega
  ·have hlt2:¬ (i:Int) < (m':Int):=by omega
   clear hbl
   go_wp2
   go_ret
   exact ⟨rfl,HTR.out.bel⟩
theorem rsame_any:∀ (N:Nat) (t:RP),cntP t<=N->LnP t->TfP t->SameC t
 | 0,t,h,_,_=>by have:=cntP_pos t;omega
 | N+1,.mk s items fill,h,hN,ht=>by
  rw [cntP] at h
  rw [TfP] at ht
  rw [LnP] at hN
  refine rsame_step s items fill hN.1 hN.2.1 fun i hi=>?_
  have hc:=cntIs_at hi
  have htf:=tfIs_at hi ht
  have hln:=lnIs_at hi hN.2.2
  generalize items[i]=it at hc htf hln
  cases it with
  | mk kind num char box =>
   rw [cntI] at hc
   rw [TfI] at htf
   rw [LnI] at hln
   exact ritem_any kind num char box htf.1 hln.1 fun j hj=>rsame_any N box[j] (by have:=cntPs_at hj;omega) (lnPs_at hj hln.2) (tfPs_at hj htf.2)
theorem rsame_raw {a:PA} (d:Nat) (hg:GoodA d a) (hs:SmA 1000000 a):SameC (rawP a):=rsame_any (cntP (rawP a)) _ (Nat.le_refl _) (ln_raw d a hg hs) (tf_raw d a hg)
def mixZ (h x:Int):Int:=bits .xor .u64 (IntKind.u64.wrap (bits .xor .u64 h x*11400714819323198485)) (IntKind.u64.wrap (bits .xor .u64 h x*11400714819323198485) / 536870912)
theorem mixZ_in (h x:Int):0<=mixZ h x/\mixZ h x < 18446744073709551616:=by
 unfold mixZ
 show 0<=IntKind.u64.wrap _/\IntKind.u64.wrap _ < _
 rw [IntKind.wrap_u64]
 omega
theorem mix_any (h x:Int) (w:World) :
  Calls Tryz.prog 257 #[.int .u64 h,.int .u64 x] w fun e w'=>e= .returned (.int .u64 (mixZ h x))/\w'=w:=by
 go_enter Tryz.func257,Tryz.ntmps257
 go_wp2
 go_ret
 exact ⟨rfl,rfl⟩
def elA:PA->Nat->RI
 | .nums _ l,i => .mk 0 (l.getD i 0) 0 []
 | .chars _ l,i => .mk 1 0 (l.getD i 0) []
 | .boxes _ l,i => .mk 2 0 0 [rawP (l.getD i default)]
def RP.shp:RP->List Int
 | .mk s _ _=>s
def RP.its:RP->List RI
 | .mk _ l _=>l
def RP.fil:RP->Int
 | .mk _ _ f=>f
theorem rawP_shp (a:PA):(rawP a).shp=a.shape.map Int.ofNat:=by cases a <;> simp [rawP,RP.shp,PA.shape]
theorem rawP_fil (a:PA):(rawP a).fil=(a.fill:Int):=by cases a <;> simp [rawP,RP.fil,PA.fill]
theorem rawP_len (a:PA):(rawP a).its.length=a.len:=by
 cases a with
 | nums s l=>simp [rawP,RP.its,PA.len]
 | chars s l=>simp [rawP,RP.its,PA.len]
 | boxes s l=>rw [rawP,RP.its,rawBs_len];rfl
theorem rawP_at {a:PA}{i:Nat} (hi:i < a.len):(rawP a).its.getD i default=elA a i:=by
 cases a with
 | nums s l =>
  have h:i < l.length:=hi
  simp [rawP,RP.its,elA,List.getD,h]
 | chars s l =>
  have h:i < l.length:=hi
  simp [rawP,RP.its,elA,List.getD,h]
 | boxes s l =>
  have h:i < l.length:=hi
  have h2:i < (rawBs l).length:=by rw [rawBs_len];exact h
  rw [rawP,RP.its,elA,List.getD_eq_getElem?_getD,List.getElem?_eq_getElem h2,Option.getD_some,rawBs_at h h2]
  simp [List.getD,h]
theorem rp_eta (t:RP):t= .mk t.shp t.its t.fil:=by cases t;rfl
theorem its_eq {a b:PA} (hl:a.len=b.len) (h:∀ i,i < a.len->elA a i=elA b i):(rawP a).its=(rawP b).its:=by
 apply List.ext_getElem
 ·rw [rawP_len,rawP_len,hl]
 ·intro i h1 h2
  have h3:i < a.len:=by rw [<- rawP_len];exact h1
  have h4:i < b.len:=by omega
  have e1:=rawP_at h3
  have e2:=rawP_at h4
  rw [List.getD_eq_getElem?_getD,List.getElem?_eq_getElem h1,Option.getD_some] at e1
  rw [List.getD_eq_getElem?_getD,List.getElem?_eq_getElem h2,Option.getD_some] at e2
  rw [e1,e2,h i h3]
theorem map_ofNat_inj:∀ {s t:List Nat},s.map Int.ofNat=t.map Int.ofNat->s=t
 | [],[],_=>rfl
 | [],_::_,h=>by simp at h
 | _::_,[],h=>by simp at h
 | a::s,b::t,h=>by
  simp only [List.map_cons,List.cons.injEq] at h
  rw [map_ofNat_inj h.2,Int.ofNat.inj h.1]
theorem rawP_iff (a b:PA):rawP a=rawP b↔a.shape=b.shape/\a.fill=b.fill/\a.len=b.len/\∀ i,i < a.len->elA a i=elA b i:=by
 constructor
 ·intro h
  have h1:a.len=b.len:=by rw [<- rawP_len,<- rawP_len,h]
  refine ⟨map_ofNat_inj (by rw [<- rawP_shp,<- rawP_shp,h]),?_,h1,fun i hi=>by rw [<- rawP_at hi,<- rawP_at (by omega),h]⟩
  have:=rawP_fil a
  rw [h,rawP_fil] at this
  omega
 ·rintro ⟨h1,h2,h3,h4⟩
  rw [rp_eta (rawP a),rp_eta (rawP b),rawP_shp,rawP_shp,rawP_fil,rawP_fil,h1,h2,its_eq h3 h4]
noncomputable def eqI (x y:RI):Bool:=@decide (x=y) (Classical.propDecidable _)
noncomputable def eqR (x y:RP):Bool:=@decide (x=y) (Classical.propDecidable _)
theorem eqI_iff {x y:RI}:eqI x y=true↔x=y:=@decide_eq_true_iff _ (Classical.propDecidable _)
theorem eqR_iff {x y:RP}:eqR x y=true↔x=y:=@decide_eq_true_iff _ (Classical.propDecidable _)
theorem eqI_no {x y:RI}:eqI x y=false↔x≠y:=@decide_eq_false_iff_not _ (Classical.propDecidable _)
theorem eqR_no {x y:RP}:eqR x y=false↔x≠y:=@decide_eq_false_iff_not _ (Classical.propDecidable _)
mutual
def keyP:RP->Int
 | .mk s items fill=>keyIs (s.foldl (fun h d=>mixZ h (IntKind.u64.wrap d)) (mixZ 3 (IntKind.u64.wrap fill))) items
def keyIs:Int->List RI->Int
 | h,[]=>h
 | h,t::ts=>keyIs (mixZ h (keyI t)) ts
def keyI:RI->Int
 | .mk kind num char box=>if kind=1 then mixZ 1 (char % 4294967296) else if kind=2 then keyB box else mixZ 2 num
def keyB:List RP->Int
 | []=>0
 | t::_=>keyP t
end
theorem keyIs_snoc:∀ (l:List RI) (h:Int) (t:RI),keyIs h (l++[t])=mixZ (keyIs h l) (keyI t)
 | [],h,t=>by rw [List.nil_append,keyIs,keyIs,keyIs]
 | a::ar,h,t=>by rw [List.cons_append,keyIs,keyIs_snoc ar,keyIs]
theorem keyIs_take {l:List RI}{i:Nat} (hi:i < l.length) (h:Int):keyIs h (l.take (i+1))=mixZ (keyIs h (l.take i)) (keyI (l.getD i default)):=by
 rw [List.take_add_one,List.getElem?_eq_getElem hi,Option.toList_some,keyIs_snoc,List.getD_eq_getElem?_getD,List.getElem?_eq_getElem hi,Option.getD_some]
def InK (z:Int):Prop:=0<=z/\z < 18446744073709551616
theorem keyIs_in:∀ (l:List RI) (h:Int),InK h->InK (keyIs h l)
 | [],h,g=>by rw [keyIs];exact g
 | t::ts,h,_=>by rw [keyIs];exact keyIs_in ts _ (mixZ_in _ _)
theorem foldm_in:∀ (l:List Int) (h:Int),InK h->InK (l.foldl (fun h d=>mixZ h (IntKind.u64.wrap d)) h)
 | [],_,g=>g
 | _::ts,_,_=>foldm_in ts _ (mixZ_in _ _)
theorem keyP_in:∀ t:RP,InK (keyP t)
 | .mk s items fill=>by rw [keyP];exact keyIs_in _ _ (foldm_in _ _ (mixZ_in _ _))
theorem keyI_in:∀ t:RI,InK (keyI t)
 | .mk kind num char box=>by
  rw [keyI]
  split
  ·exact mixZ_in _ _
  ·split
   ·cases box with
    | nil=>rw [keyB];exact ⟨by decide,by decide⟩
    | cons t ts=>rw [keyB];exact keyP_in t
   ·exact mixZ_in _ _
theorem foldl_take {l:List Int}{i:Nat} (hi:i < l.length) (f:Int->Int->Int) (h:Int):(l.take (i+1)).foldl f h=f ((l.take i).foldl f h) l[i]:=by
 rw [List.take_add_one,List.getElem?_eq_getElem hi,Option.toList_some,List.foldl_append]
 rfl
theorem Reads1.opnI {w:World}{v:Value}{xs:List Value} (h:Reads1 w v xs):∃ A cc n,v= .slice A n cc/\n=xs.length /\
  ∀ i (hi:i < xs.length),∃ b o,A=some ⟨b,o,none⟩/\∀ w1,Below w.heap.size w w1->w1.cell? ⟨b,o+i,none⟩=some xs[i]:=by
 rcases h with ⟨a,c,rfl,rfl⟩ | ⟨b,o,n,c,rfl,hn,hc⟩
 ·exact ⟨a,c,0,rfl,rfl,fun i hi=>by simp at hi⟩
 ·refine ⟨_,c,n,rfl,hn,fun i hi=>⟨b,o,rfl,fun w1 hb=>?_⟩⟩
  have:=hc i hi
  rw [hb.cell (cell_lt this),this]
def allEqI {α:Type} (p:α->α->Bool):List α->List α->Bool
 | [],[]=>true
 | x::xs,y::ys=>p x y&&allEqI p xs ys
 | _,_=>false
theorem allEqI_len {α:Type}{p:α->α->Bool}:∀ {a b:List α},a.length≠b.length->allEqI p a b=false
 | [],[],h=>by simp at h
 | [],_::_,_=>rfl
 | _::_,[],_=>rfl
 | x::xs,y::ys,h=>by rw [allEqI,allEqI_len (a:=xs) (b:=ys) (by simpa using h)];simp
theorem allEqI_step {α:Type}{p:α->α->Bool}{a b:List α}{k:Nat} (ha:k < a.length) (hb:k < b.length):allEqI p (a.drop k) (b.drop k)=(p a[k] b[k]&&allEqI p (a.drop (k+1)) (b.drop (k+1))):=by
 rw [List.drop_eq_getElem_cons ha,List.drop_eq_getElem_cons hb,allEqI]
theorem allEqI_end {α:Type}{p:α->α->Bool}{a b:List α}{k:Nat} (ha:a.length<=k) (hb:b.length<=k):allEqI p (a.drop k) (b.drop k)=true:=by
 rw [List.drop_eq_nil_of_le ha,List.drop_eq_nil_of_le hb];rfl
def ieqI (a b:Int):Bool:=decide (a=b)
theorem allEqI_iff:∀ {a b:List Int},allEqI ieqI a b=decide (a=b)
 | [],[]=>by simp [allEqI]
 | [],_::_=>by simp [allEqI]
 | _::_,[]=>by simp [allEqI]
 | x::xs,y::ys=>by
  rw [allEqI,allEqI_iff (a:=xs) (b:=ys)]
  unfold ieqI
  simp
theorem equalI_walk (va vb:Value) (la lb:List Int) (w:World) (ha:Reads1 w va (la.map (Value.int .i64))) (hb:Reads1 w vb (lb.map (Value.int .i64))) (hl:la.length<=1048576) (hl2:lb.length<=1048576) :
  Calls Tryz.prog 273 #[va,vb] w fun e w'=>e= .returned (.bool (allEqI ieqI la lb))/\Below w.heap.size w w':=by
 obtain ⟨A,cc,n,rfl,hn,hcell⟩:=ha.opnI
 obtain ⟨A2,cc2,n2,rfl,hn2,hcell2⟩:=hb.opnI
 rw [List.length_map] at hn hn2
 have HC:=Lib.hid hcell
 have HC2:=Lib.hid hcell2
 have HN:=Lib.hid hn
 have HN2:=Lib.hid hn2
 have hb1:n<=1048576:=by omega
 have hb2:n2<=1048576:=by omega
 obtain ⟨R,hR⟩:∃ R,R=allEqI ieqI la lb:=⟨_,rfl⟩
 have HR:Hid (R=allEqI ieqI (la.drop 0) (lb.drop 0)):=hR
 have HLE:Hid (la.length≠lb.length->R=false):=fun h=>by rw [hR];exact allEqI_len h
 have HST:Hid (∀ k (h1:k < la.length) (h2:k < lb.length),allEqI ieqI (la.drop k) (lb.drop k)=(ieqI la[k] lb[k]&&allEqI ieqI (la.drop (k+1)) (lb.drop (k+1)))):=fun k h1 h2=>allEqI_step h1 h2
 have HEN:Hid (∀ k,la.length<=k->lb.length<=k->allEqI ieqI (la.drop k) (lb.drop k)=true):=fun k h1 h2=>allEqI_end h1 h2
 rw [<- hR]
 clear hcell hcell2 hn hn2 ha hb hl hl2 hR
 by_cases hnn:n=n2
 ·subst hnn
  have hne:((n:Int) != (n:Int))=false:=by simp
  go_enter Tryz.func273,Tryz.ntmps273
  go_wp2
  go_loopw [5,13] (fun _ i wr=>∃ k:Nat,k<=n/\i= .int .i64 (k:Int)/\Below w.heap.size w wr/\Hid (R=allEqI ieqI (la.drop k) (lb.drop k))) (fun _ i _=>n - (intOf i).toNat)
  case atStart=>exact ⟨0,Nat.zero_le _,rfl,Below.refl _ _,HR.out⟩
  case round =>
   obtain ⟨k,hk,rfl,hbl,heq⟩:=hrel
   have HBL:=Lib.hid hbl
   by_cases hlt:k < n
   ·have h1:k < la.length:=by have:=HN.out;omega
    have h2:k < lb.length:=by have:=HN2.out;omega
    obtain ⟨b,o,rfl,hce⟩:=HC.out k (by rw [List.length_map];exact h1)
    obtain ⟨b',o',rfl,hce'⟩:=HC2.out k (by rw [List.length_map];exact h2)
    have c1:=hce _ hbl
    have c2:=hce' _ hbl
    rw [List.getElem_map] at c1 c2
    have HS:=Lib.hid (HST.out k h1 h2)
    generalize la[k]=x at *
    generalize lb[k]=y at *
    skip
    cases hxy:ieqI x y with
    | true =>
     have HT:Hid (R=allEqI ieqI (la.drop (k+1)) (lb.drop (k+1))):=by unfold Hid;rw [heq.out,HS.out,hxy];rfl
     obtain rfl:x=y:=by unfold ieqI at hxy;simpa using hxy
     have hfe:(x != x)=false:=by simp
     have hlt2:(k:Int) < (n:Int):=by omega
     clear hxy heq hbl hce hce' HS
     go_wp2
     go_quiet (fail)
     go_wp2
     go_roundw
     case rel=>exact ⟨k+1,by omega,by go_num,below_drewN HBL.out _,HT.out⟩
     case measure=>simp [intOf];omega
    | false =>
     have HT:Hid (R=false):=by unfold Hid;rw [heq.out,HS.out,hxy];rfl
     have hfe:(x != y)=true:=by unfold ieqI at hxy;simpa using hxy
     have hlt2:(k:Int) < (n:Int):=by omega
     clear hxy heq hbl hce hce' HS
     go_wp2
     go_quiet (fail)
     go_wp2
     go_ret
     exact ⟨by rw [HT.out];rfl,below_drewN HBL.out _⟩
   ·have HT:Hid (R=true):=by unfold Hid;rw [heq.out,HEN.out k (by have:=HN.out;omega) (by have:=HN2.out;omega)]
    clear heq hbl
    go_wp2
    go_ret
    exact ⟨by rw [HT.out];rfl,HBL.out⟩
 ·have HT:Hid (R=false):=HLE.out fun e=>hnn (by rw [HN.out,HN2.out,e])
  have hne:((n:Int) != (n2:Int))=true:=by simp;omega
  go_enter Tryz.func273,Tryz.ntmps273
  go_wp2
  go_ret
  exact ⟨by rw [HT.out];rfl,Below.refl _ _⟩
theorem shSame_any {H1 H2:Nat->Prop}{w0:World}{h1 h2:Sl}{s1 s2:List Nat} (g1:ShV H1 w0 h1 s1) (g2:ShV H2 w0 h2 s2) (hl:s1.length<=1048576) (hl2:s2.length<=1048576) (w:World) (hb:Below w0.heap.size w0 w) :
  Calls Tryz.prog 270 #[sv h1,sv h2] w fun e w'=>e= .returned (.bool (decide (s1=s2)))/\Below w.heap.size w w':=by
 have r1:Reads1 w (sv h1) ((s1.map Int.ofNat).map (Value.int .i64)):=by
  rw [List.map_map]
  exact (Keeps.lat g1 (Lat.below hb)).now
 have r2:Reads1 w (sv h2) ((s2.map Int.ofNat).map (Value.int .i64)):=by
  rw [List.map_map]
  exact (Keeps.lat g2 (Lat.below hb)).now
 have e:allEqI ieqI (s1.map Int.ofNat) (s2.map Int.ofNat)=decide (s1=s2):=by
  rw [allEqI_iff]
  refine decide_eq_decide.2 ⟨fun h=>?_,fun h=>by rw [h]⟩
  exact (List.map_inj_right (fun a b h=>by injection h)).1 h
 have HE:=Lib.hid (equalI_walk _ _ _ _ w r1 r2 (by simpa using hl) (by simpa using hl2))
 rw [e] at HE
 clear e r1 r2 g1 g2 hl hl2 hb
 go_enter Tryz.func270,Tryz.ntmps270
 go_wp2_with fail
 refine HE.out.mono ?_
 rintro e w1 ⟨rfl,hb⟩
 have HB:=Lib.hid hb
 clear hb
 go_wp2
 go_ret
 exact ⟨rfl,HB.out⟩
theorem numbers_tid (H:Nat->Prop) (v:Value) (n:Nat) (F0:Nat->Nat) (w:World) (hH:∀ b,H b->b < w.heap.size) (hr:Reads1 w v ((List.range n).map fun j => .float .f64 (F0 j))) (hn:n<=1000000) (hF:∀ j,j < n->F0 j < 18446744073709551616) (hok:∀ j,j < n->okF (F0 j)=true) :
  Calls Tryz.prog 151 #[v] w (Vec2R H w (fun u W=>NumV u (leastF (fun j=>tidF (F0 j)) n:Nat) n (fun j=>tidF (F0 j)) W)):=by
 obtain ⟨F,hFF⟩:∃ F,F=fun j=>tidF (F0 j):=⟨_,rfl⟩
 have ht:∀ j,j < n->TF (F j):=fun j hj=>by rw [hFF];exact okF_tf (hok j hj) (hF j hj)
 have HF:Hid (Calls Tryz.prog 205 #[v] (w.alloc (.cells zcells 57)) fun e w'=>∃ a m c,e= .returned (.tuple #[vecV 4 vnil 0 vnil vnil (.slice a m c) vnil vnil,.bool true])/\Own1 w' (w.alloc (.cells zcells 57)).heap.size 96 (.slice a m c) ((List.range n).map fun j => .float .f64 (F j))/\Below (w.alloc (.cells zcells 57)).heap.size (w.alloc (.cells zcells 57)) w'):=by
  refine (floats_all (hr.below (bel1 w (.cells zcells 57))) hn hF).mono ?_
  rintro e w' (⟨_,a,m,c,rfl,ho,hb⟩ | ⟨⟨j,hj,hbad⟩,_⟩)
  ·rw [hFF];exact ⟨a,m,c,rfl,ho,hb⟩
  ·rw [hok j hj] at hbad;cases hbad
 rw [<- hFF]
 have HT:=Lib.hid ht
 have HH:=Lib.hid hH
 obtain ⟨v1,v2,v3,rfl⟩:∃ a m c,v= .slice a m c:=by obtain ⟨a,c,e⟩:=hr.len;exact ⟨a,_,c,e⟩
 clear hr ht hH hFF hF hok
 go_enter Tryz.func151,Tryz.ntmps151
 go_wp2_with fail
 refine HF.out.mono ?_
 rintro e w1 ⟨a,m,c,rfl,ho,hb1⟩
 have HK1:=Lib.hid (block_up hb1)
 have HB1:=Lib.hid (bel_both (bel1 w _) hb1)
 have HO:=Lib.hid (ho.lower (show w.heap.size+1<=_ by simp))
 clear hb1 ho
 have HB2:=Lib.hid (bel_both HB1.out (bel1 w1 (.cells #[.int .i64 4,vnil,.int .i64 0,vnil,vnil,.slice a m c,vnil,vnil] 57)))
 have HK2:=Lib.hid ((Below.heap_alloc w1 (.cells #[.int .i64 4,vnil,.int .i64 0,vnil,vnil,.slice a m c,vnil,vnil] 57) _ (lt_of_block HK1.out)).trans HK1.out)
 have HKV:Hid (Keeps (fun j=>H j\/j=w.heap.size) (w1.alloc (.cells #[.int .i64 4,vnil,.int .i64 0,vnil,vnil,.slice a m c,vnil,vnil] 57)) (NumV (vecW 4 (none,0,0) 0 (none,0,0) (none,0,0) (a,m,c) (none,0,0) (none,0,0)) 4 n F)) :=
  ((HO.out.keepsH (fun j e=>by rcases e with e | e;have:=HH.out j e;omega;omega)).imp fun W' h2=>numV_floats ⟨⟨_,rfl,h2⟩,HT.out⟩).step (bel1 w1 _)
 have HS:=Lib.hid (squeeze_num (fun j=>H j\/j=w.heap.size) 4 (none,0,0) 0 (none,0,0) (none,0,0) (a,m,c) (none,0,0) (none,0,0) n F _ (fun j e=>by
  have h1:=HB2.out.size
  have h2:=lt_of_block HK2.out
  rcases e with e | e
  ·have:=HH.out j e;omega
  ·omega) hn HKV.out)
 go_wp2_with fail
 refine HS.out.mono ?_
 rintro e w3 ⟨k4,b4,bn4,s4,i4,f4,c4,x4,rfl,hk4,hb4⟩
 have HB4:=Lib.hid (bel_both HB2.out hb4)
 have HK4:=Lib.hid (show w3.heap[w.heap.size]?=some (.cells zcells 57) by rw [hb4.block _ (lt_of_block HK2.out)];exact HK2.out)
 have HKE:=Lib.hid hk4
 clear hb4 hk4
 obtain ⟨⟨h0,h1,h2,h3,h4,h5,h6,h7⟩,hz⟩:=boxed_of HK4.out
 go_wp2
 refine bodyPost_ret (v := .tuple #[vecW k4 b4 bn4 s4 i4 f4 c4 x4,.bool true]) ?_ rfl ⟨k4,b4,bn4,s4,i4,f4,c4,x4,rfl,(HKE.out.set8 (.inr rfl) _ _ _ _ _ _ _ _).sub (fun _ _ e => .inl e),below_set8 HB4.out (Nat.le_refl _) _ _ _ _ _ _ _ _⟩
 exact ret_vec2 (fn:=Tryz.f151) (p:=2) (u:=3) rfl _ _ w.heap.size (by rfl) (set8_block HK4.out _ _ _ _ _ _ _ _)
end Go.Proofs.YtbakjaliponbbaaGreatDoor
