/- The walks of the reference's Same and Item at plain arrays that are alike. Two plain arrays in blocks of a call's own. The walk of rebusref24.part. The walks .. Conditions: as each theorem says. -/
import Derived.Test.YtbakjaliponbbaaGreatDoorMg27
import Derived.Test.YtbakjaliponbbaaGreatDoorMg16
import Derived.Test.YtbakjaliponbbaaGreatDoorMg12
import Derived.StillTailTactics
import Derived.Test.YtbakjaliponbbaaGreatDoorMg28
import Derived.Test.YtbakjaliponbbaaGreatDoorMg30
import Derived.Deep.CutBlock
set_option maxRecDepth 100000
set_option maxHeartbeats 2000000
namespace Go.Proofs.YtbakjaliponbbaaGreatDoor
open Go Go.RowKit Go.Proofs Fl
mutual
def TfP:RP->Prop
 | .mk _ items _=>TfIs items
def TfIs:List RI->Prop
 | []=>True
 | t::ts=>TfI t/\TfIs ts
def TfI:RI->Prop
 | .mk _ n _ box=>TF n/\TfPs box
def TfPs:List RP->Prop
 | []=>True
 | t::ts=>TfP t/\TfPs ts
end
theorem tfIs_at:∀ {ts:List RI}{i:Nat} (hi:i < ts.length),TfIs ts->TfI ts[i]
 | [],_,hi,_=>by simp at hi
 | t::ts,0,_,h=>by rw [TfIs] at h;exact h.1
 | t::ts,i+1,hi,h=>by rw [TfIs] at h;simpa using tfIs_at (ts:=ts) (i:=i) (by simpa using hi) h.2
theorem tfIs_of:∀ (ts:List RI),(∀ i (hi:i < ts.length),TfI ts[i])->TfIs ts
 | [],_=>by rw [TfIs];trivial
 | t::ts,h=>by
  rw [TfIs]
  exact ⟨by have:=h 0 (by simp);simpa using this,tfIs_of ts fun i hi=>by have:=h (i+1) (by simpa using hi);simpa using this⟩
theorem tfPs_at:∀ {ts:List RP}{i:Nat} (hi:i < ts.length),TfPs ts->TfP ts[i]
 | [],_,hi,_=>by simp at hi
 | t::ts,0,_,h=>by rw [TfPs] at h;exact h.1
 | t::ts,i+1,hi,h=>by rw [TfPs] at h;simpa using tfPs_at (ts:=ts) (i:=i) (by simpa using hi) h.2
mutual
theorem tf_raw:∀ (d:Nat) (a:PA),GoodA d a->TfP (rawP a)
 | d,.nums s l,h=>by
  rw [rawP,TfP]
  rw [GoodA] at h
  refine tfIs_of _ fun i hi=>?_
  rw [List.getElem_map,TfI,TfPs]
  exact ⟨h.2.2 _ (List.getElem_mem _),trivial⟩
 | d,.chars s l,h=>by
  rw [rawP,TfP]
  refine tfIs_of _ fun i hi=>?_
  rw [List.getElem_map,TfI,TfPs]
  exact ⟨tf_zero,trivial⟩
 | d,.boxes s l,h=>by
  rw [GoodA] at h
  rw [rawP,TfP]
  exact tf_rawBs (d - 1) l h.2.2
theorem tf_rawBs:∀ (d:Nat) (l:List PA),GoodAs d l->TfIs (rawBs l)
 | _,[],_=>by rw [rawBs,TfIs];trivial
 | d,a::ar,h=>by
  rw [GoodAs] at h
  rw [rawBs,TfIs,TfI,TfPs,TfPs]
  exact ⟨⟨tf_zero,tf_raw d a h.1,trivial⟩,tf_rawBs d ar h.2⟩
end
mutual
def LnP:RP->Prop
 | .mk s items _=>s.length<=1048576/\items.length<=1048576/\LnIs items
def LnIs:List RI->Prop
 | []=>True
 | t::ts=>LnI t/\LnIs ts
def LnI:RI->Prop
 | .mk _ _ _ box=>box.length<=1048576/\LnPs box
def LnPs:List RP->Prop
 | []=>True
 | t::ts=>LnP t/\LnPs ts
end
theorem lnIs_at:∀ {ts:List RI}{i:Nat} (hi:i < ts.length),LnIs ts->LnI ts[i]
 | [],_,hi,_=>by simp at hi
 | t::ts,0,_,h=>by rw [LnIs] at h;exact h.1
 | t::ts,i+1,hi,h=>by rw [LnIs] at h;simpa using lnIs_at (ts:=ts) (i:=i) (by simpa using hi) h.2
theorem lnIs_of:∀ (ts:List RI),(∀ i (hi:i < ts.length),LnI ts[i])->LnIs ts
 | [],_=>by rw [LnIs];trivial
 | t::ts,h=>by
  rw [LnIs]
  exact ⟨by have:=h 0 (by simp);simpa using this,lnIs_of ts fun i hi=>by have:=h (i+1) (by simpa using hi);simpa using this⟩
theorem lnPs_at:∀ {ts:List RP}{i:Nat} (hi:i < ts.length),LnPs ts->LnP ts[i]
 | [],_,hi,_=>by simp at hi
 | t::ts,0,_,h=>by rw [LnPs] at h;exact h.1
 | t::ts,i+1,hi,h=>by rw [LnPs] at h;simpa using lnPs_at (ts:=ts) (i:=i) (by simpa using hi) h.2
mutual
theorem ln_raw:∀ (d:Nat) (a:PA),GoodA d a->SmA 1000000 a->LnP (rawP a)
 | d,.nums s l,h,hs=>by
  have h8:s.length<=8:=h.sh.2.1
  have hl:l.length<=1000000:=hs.len
  rw [rawP,LnP,List.length_map,List.length_map]
  refine ⟨by omega,by omega,lnIs_of _ fun i hi=>?_⟩
  rw [List.getElem_map,LnI,LnPs]
  exact ⟨by simp,trivial⟩
 | d,.chars s l,h,hs=>by
  have h8:s.length<=8:=h.sh.2.1
  have hl:l.length<=1000000:=hs.len
  rw [rawP,LnP,List.length_map,List.length_map]
  refine ⟨by omega,by omega,lnIs_of _ fun i hi=>?_⟩
  rw [List.getElem_map,LnI,LnPs]
  exact ⟨by simp,trivial⟩
 | d,.boxes s l,h,hs=>by
  have h8:s.length<=8:=h.sh.2.1
  have hl:l.length<=1000000:=hs.len
  rw [GoodA] at h
  rw [SmA] at hs
  rw [rawP,LnP,List.length_map,rawBs_len]
  exact ⟨by omega,by omega,ln_rawBs (d - 1) l h.2.2 hs.2⟩
theorem ln_rawBs:∀ (d:Nat) (l:List PA),GoodAs d l->SmAs 1000000 l->LnIs (rawBs l)
 | _,[],_,_=>by rw [rawBs,LnIs];trivial
 | d,a::ar,h,hs=>by
  rw [GoodAs] at h
  rw [SmAs] at hs
  rw [rawBs,LnIs,LnI,LnPs,LnPs]
  exact ⟨⟨by simp,ln_raw d a h.1 hs.1,trivial⟩,ln_rawBs d ar h.2 hs.2⟩
end
abbrev itO (k:Int) (n:Nat) (c:Int) (x:Sl):Obj := .cells #[.int .i64 k,.float .f64 n,.int .i32 c,.slice x.1 x.2.1 x.2.2] 106
abbrev plO (h x:Sl) (f:Int):Obj := .cells #[.slice h.1 h.2.1 h.2.2,.slice x.1 x.2.1 x.2.2,.int .i64 f] 44
theorem at4_c {w:World}{b:Nat}{k:Int}{n:Nat}{c:Int}{x:Sl} (g:At4 w b 0 k n c x):w.cell? ⟨b,0,none⟩=some (.int .i64 k)/\w.cell? ⟨b,1,none⟩=some (.float .f64 n)/\w.cell? ⟨b,2,none⟩=some (.int .i32 c)/\w.cell? ⟨b,3,none⟩=some (.slice x.1 x.2.1 x.2.2):=g
theorem at3_c {w:World}{b:Nat}{h x:Sl}{f:Int} (g:At3 w b 0 h x f):w.cell? ⟨b,0,none⟩=some (.slice h.1 h.2.1 h.2.2)/\w.cell? ⟨b,1,none⟩=some (.slice x.1 x.2.1 x.2.2)/\w.cell? ⟨b,2,none⟩=some (.int .i64 f):=g
theorem at4_box (w:World) (k:Int) (n:Nat) (c:Int) (x:Sl):At4 (w.alloc (itO k n c x)) w.heap.size 0 k n c x:=by
 have h:=block4 (heap_alloc_new w (itO k n c x))
 exact h.1
theorem at3_box (w:World) (h x:Sl) (f:Int):At3 (w.alloc (plO h x f)) w.heap.size 0 h x f:=by
 have g:=block3 (heap_alloc_new w (plO h x f))
 exact g.1
structure Two3 (w:World) (h x h' x':Sl) (f:Int) (W:World):Prop where
 one:At3 W w.heap.size 0 h x f
 two:At3 W (w.heap.size+1) 0 h' x' f
 bel:Below w.heap.size w W
theorem Two3.new (w:World) (h x h' x':Sl) (f:Int):Two3 w h x h' x' f ((w.alloc (plO h x f)).alloc (plO h' x' f)):=by
 have g:=at3_box (w.alloc (plO h x f)) h' x' f
 have e:(w.alloc (plO h x f)).heap.size=w.heap.size+1:=by simp
 rw [e] at g
 exact ⟨(at3_box w h x f).of fun j=>(bel1 _ _).cell (p:=⟨w.heap.size,j,none⟩) (by simp),g,bel2 _ _ _⟩
theorem Two3.step {w W W':World}{h x h' x':Sl}{f:Int} (g:Two3 w h x h' x' f W) (hb:Below W.heap.size W W'):Two3 w h x h' x' f W' :=
 ⟨g.one.of fun j=>hb.cell (p:=⟨w.heap.size,j,none⟩) g.one.lt,g.two.of fun j=>hb.cell (p:=⟨w.heap.size+1,j,none⟩) g.two.lt,bel_both g.bel hb⟩
structure Two4 (w:World) (k:Int) (n:Nat) (c:Int) (x x':Sl) (W:World):Prop where
 one:At4 W w.heap.size 0 k n c x
 two:At4 W (w.heap.size+1) 0 k n c x'
 bel:Below w.heap.size w W
theorem Two4.new (w:World) (k:Int) (n:Nat) (c:Int) (x x':Sl):Two4 w k n c x x' ((w.alloc (itO k n c x)).alloc (itO k n c x')):=by
 have g:=at4_box (w.alloc (itO k n c x)) k n c x'
 have e:(w.alloc (itO k n c x)).heap.size=w.heap.size+1:=by simp
 rw [e] at g
 exact ⟨(at4_box w k n c x).of fun j=>(bel1 _ _).cell (p:=⟨w.heap.size,j,none⟩) (by simp),g,bel2 _ _ _⟩
theorem Two4.step {w W W':World}{k:Int}{n:Nat}{c:Int}{x x':Sl} (g:Two4 w k n c x x' W) (hb:Below W.heap.size W W'):Two4 w k n c x x' W' :=
 ⟨g.one.of fun j=>hb.cell (p:=⟨w.heap.size,j,none⟩) g.one.lt,g.two.of fun j=>hb.cell (p:=⟨w.heap.size+1,j,none⟩) g.two.lt,bel_both g.bel hb⟩
def SameC (t:RP):Prop:=∀ (H H':Nat->Prop) (h x h' x':Sl) (f f':Int) (w:World),PV H w t h x f->PV H' w t h' x' f' ->
  Calls Tryz.prog 92 #[plV h x f,plV h' x' f'] w fun e w'=>e= .returned (.bool true)/\Below w.heap.size w w'
theorem ritem_any (kind:Int) (num:Nat) (char:Int) (box:List RP) (hnum:TF num) (hl:box.length<=1048576) (hih:∀ i (hi:i < box.length),SameC box[i]) (H H':Nat->Prop) (k:Int) (n:Nat) (c:Int) (x:Sl) (k':Int) (n':Nat) (c':Int) (x':Sl) (w:World)
  (hp:IV H w (.mk kind num char box) k n c x) (hq:IV H' w (.mk kind num char box) k' n' c' x') :
  Calls Tryz.prog 133 #[itV k n c x,itV k' n' c' x'] w fun e w'=>e= .returned (.bool true)/\Below w.heap.size w w':=by
 obtain ⟨rfl,rfl,rfl,hx,hk⟩:=hp.open_
 obtain ⟨rfl,rfl,rfl,hx',hk'⟩:=hq.open_
 obtain ⟨A,m,cc⟩:=x
 obtain ⟨A',m',cc'⟩:=x'
 dsimp only at hx hx' hk hk'
 obtain rfl:m'=m:=by omega
 have hmb:m'<=1048576:=by omega
 have HM:=Lib.hid hx
 have HK:=Lib.hid hk
 have HK':=Lib.hid hk'
 have HIH:=Lib.hid hih
 unfold SameC at HIH
 have HBT:=Lib.hid (fun W=>bits_tf hnum W)
 have HT0:=Lib.hid (Two4.new w k' n' c' (A,m',cc) (A',m',cc'))
 have e1:(k' != k')=false:=by simp
 have e2:(c' != c')=false:=by simp
 have e3:((m':Int) != (m':Int))=false:=by simp
 obtain ⟨W,hW⟩:∃ W,W=(w.alloc (itO k' n' c' (A,m',cc))).alloc (itO k' n' c' (A',m',cc')):=⟨_,rfl⟩
 have HW:=Lib.hid hW
 rw [<- hW] at HT0
 clear hp hq hx hx' hk hk' hih hnum hl hW
 go_enter Tryz.func133,Tryz.ntmps133
 go_wp2_with fail
 rw [<- HW.out]
 refine (HBT.out _).mono ?_
 rintro e w' ⟨rfl,rfl⟩
 obtain ⟨a0,a1,a2,a3⟩:=at4_c HT0.out.one
 obtain ⟨b0,b1,b2,b3⟩:=at4_c HT0.out.two
 dsimp only at a3 b3
 go_wp2
 clear a0 a1 a2 a3 b0 b1 b2 b3
 go_loopw [5,5] (fun _ iv wr=>∃ i:Nat,i<=m'/\iv= .int .i64 (i:Int)/\Below W.heap.size W wr) (fun _ iv _=>m' - (intOf iv).toNat)
 case atStart=>exact ⟨0,Nat.zero_le _,rfl,Below.refl _ _⟩
 case round =>
  obtain ⟨i,hi,rfl,hbl⟩:=hrel
  have HTR:=Lib.hid (HT0.out.step hbl)
  obtain ⟨a0,a1,a2,a3⟩:=at4_c HTR.out.one
  obtain ⟨b0,b1,b2,b3⟩:=at4_c HTR.out.two
  dsimp only at a3 b3
  have HBL:=Lib.hid hbl
  by_cases hlt:i < m'
  ·have h1:i < box.length:=by have:=HM.out;omega
   obtain ⟨b,o,p0,p1,p2,rfl,-,hpv,hce⟩:=HK.out i h1
   obtain ⟨b',o',r0,r1,r2,rfl,-,hpv',hce'⟩:=HK'.out i h1
   obtain ⟨c0,c1,c2⟩:=hce _ (Lat.below HTR.out.bel)
   obtain ⟨d0,d1,d2⟩:=hce' _ (Lat.below HTR.out.bel)
   dsimp only [sv] at c0 c1 c2 d0 d1 d2
   have HIC:=Lib.hid (HIH.out i h1 _ _ p0 p1 r0 r1 p2 r2 _ (hpv.step (bel_both HTR.out.bel (below_drewN (Below.refl wr.heap.size wr) 1))) (hpv'.step (bel_both HTR.out.bel (below_drewN (Below.refl wr.heap.size wr) 1))))
   have hlt2:(i:Int) < (m':Int):=by omega
   clear hbl hce hce' hpv hpv'
   go_wp2
   go_still_tail 10,(by kernel_rfl)
   change wpList _ _ _ _ _ (wr.drewN 1)
   have HB1:=Lib.hid (bel_both HBL.out (below_drewN (Below.refl wr.heap.size wr) 1))
   clear a0 a1 a2 a3 b0 b1 b2 b3 c0 c1 c2 d0 d1 d2
   generalize wr.drewN 1=wd at *
   go_wp2_with fail
   refine HIC.out.mono ?_
   rintro e w2 ⟨rfl,hb⟩
   have HB2:=Lib.hid (bel_both HB1.out hb)
   clear hb
   go_wp2
   go_roundw
   case rel=>exact ⟨i+1,by omega,by go_num,HB2.out⟩
   case measure=>simp [intOf];omega
  ·have hlt2:¬ (i:Int) < (m':Int):=by omega
   clear hbl
   go_wp2
   go_ret
   exact ⟨rfl,HTR.out.bel⟩
theorem rsame_step (s:List Int) (items:List RI) (fill:Int) (hs:s.length<=1048576) (hl:items.length<=1048576)
  (hih:∀ i (hi:i < items.length) (H H':Nat->Prop) (k:Int) (n:Nat) (c:Int) (x:Sl) (k':Int) (n':Nat) (c':Int) (x':Sl) (w:World),IV H w items[i] k n c x->IV H' w items[i] k' n' c' x' ->
   Calls Tryz.prog 133 #[itV k n c x,itV k' n' c' x'] w fun e w'=>e= .returned (.bool true)/\Below w.heap.size w w') :
  SameC (.mk s items fill):=by
 intro H H' h x h' x' f f' w hp hq
 obtain ⟨hsr,rfl,hx,hk⟩:=hp.open_
 obtain ⟨hsr',rfl,hx',hk'⟩:=hq.open_
 obtain ⟨A,m,cc⟩:=x
 obtain ⟨A',m',cc'⟩:=x'
 dsimp only at hx hx' hk hk'
 obtain rfl:m'=m:=by omega
 have hmb:m'<=1048576:=by omega
 have HM:=Lib.hid hx
 have HK:=Lib.hid hk
 have HK':=Lib.hid hk'
 have HIH:=Lib.hid hih
 have HT0:=Lib.hid (Two3.new w h (A,m',cc) h' (A',m',cc') f')
 have e1:(f' != f')=false:=by simp
 have e3:((m':Int) != (m':Int))=false:=by simp
 obtain ⟨W,hW⟩:∃ W,W=(w.alloc (plO h (A,m',cc) f')).alloc (plO h' (A',m',cc') f'):=⟨_,rfl⟩
 have HW:=Lib.hid hW
 rw [<- hW] at HT0
 have HIN:=Lib.hid (ints_same (sv h) (sv h') s W (Keeps.lat hsr (Lat.below HT0.out.bel)).now (Keeps.lat hsr' (Lat.below HT0.out.bel)).now hs)
 clear hp hq hx hx' hk hk' hih hl hW hsr hsr' hs
 go_enter Tryz.func92,Tryz.ntmps92
 go_wp2_with fail
 rw [<- HW.out]
 refine HIN.out.mono ?_
 rintro e w1 ⟨rfl,hb⟩
 have HT1:=Lib.hid (HT0.out.step hb)
 clear hb HT0 HIN
 obtain ⟨a0,a1,a2⟩:=at3_c HT1.out.one
 obtain ⟨b0,b1,b2⟩:=at3_c HT1.out.two
 dsimp only at a1 b1
 go_wp2
 clear a0 a1 a2 b0 b1 b2
 go_loopw [5,5] (fun _ iv wr=>∃ i:Nat,i<=m'/\iv= .int .i64 (i:Int)/\Below w1.heap.size w1 wr) (fun _ iv _=>m' - (intOf iv).toNat)
 case atStart=>exact ⟨0,Nat.zero_le _,rfl,Below.refl _ _⟩
 case round =>
  obtain ⟨i,hi,rfl,hbl⟩:=hrel
  have HTR:=Lib.hid (HT1.out.step hbl)
  obtain ⟨a0,a1,a2⟩:=at3_c HTR.out.one
  obtain ⟨b0,b1,b2⟩:=at3_c HTR.out.two
  dsimp only at a1 b1
  have HBL:=Lib.hid hbl
  by_cases hlt:i < m'
  ·have h1:i < items.length:=by have:=HM.out;omega
   obtain ⟨b,o,p0,p1,p2,p3,rfl,-,hpv,hce⟩:=HK.out i h1
   obtain ⟨b',o',r0,r1,r2,r3,rfl,-,hpv',hce'⟩:=HK'.out i h1
   obtain ⟨c0,c1,c2,c3⟩:=hce _ (Lat.below HTR.out.bel)
   obtain ⟨d0,d1,d2,d3⟩:=hce' _ (Lat.below HTR.out.bel)
   dsimp only [sv] at c0 c1 c2 c3 d0 d1 d2 d3
   have HIC:=Lib.hid (HIH.out i h1 _ _ p0 p1 p2 p3 r0 r1 r2 r3 _ (hpv.step (bel_both HTR.out.bel (below_drewN (Below.refl wr.heap.size wr) 1))) (hpv'.step (bel_both HTR.out.bel (below_drewN (Below.refl wr.heap.size wr) 1))))
   have hlt2:(i:Int) < (m':Int):=by omega
   clear hbl hce hce' hpv hpv'
   go_wp2
   go_still_tail 10,(by kernel_rfl)
   change wpList _ _ _ _ _ (wr.drewN 1)
   have HB1:=Lib.hid (bel_both HBL.out (below_drewN (Below.refl wr.heap.size wr) 1))
   clear a0 a1 a2 b0 b1 b2 c0 c1 c2 c3 d0 d1 d2 d3
   generalize wr.drewN 1=wd at *
   go_wp2_with fail
   refine HIC.out.mono ?_
   rintro e w2 ⟨rfl,hb⟩
   have HB2:=Lib.hid (bel_both HB1.out hb)
   clear hb
   go_wp2
   go_roundw
   case rel=>exact ⟨i+1,by omega,by go_num,HB2.out⟩
   case measure=>simp [intOf];omega
  ·have hlt2:¬ (i:Int) < (m':Int):=by omega
   clear hbl
   go_wp2
   go_ret
   exact ⟨rfl,HTR.out.bel⟩
theorem rsame_any:∀ (N:Nat) (t:RP),cntP t<=N->LnP t->TfP t->SameC t
 | 0,t,h,_,_=>by have:=cntP_pos t;omega
 | N+1,.mk s items fill,h,hN,ht=>by
  rw [cntP] at h
  rw [TfP] at ht
  rw [LnP] at hN
  refine rsame_step s items fill hN.1 hN.2.1 fun i hi=>?_
  have hc:=cntIs_at hi
  have htf:=tfIs_at hi ht
  have hln:=lnIs_at hi hN.2.2
  generalize items[i]=it at hc htf hln
  cases it with
  | mk kind num char box =>
   rw [cntI] at hc
   rw [TfI] at htf
   rw [LnI] at hln
   exact ritem_any kind num char box htf.1 hln.1 fun j hj=>rsame_any N box[j] (by have:=cntPs_at hj;omega) (lnPs_at hj hln.2) (tfPs_at hj htf.2)
theorem rsame_raw {a:PA} (d:Nat) (hg:GoodA d a) (hs:SmA 1000000 a):SameC (rawP a):=rsame_any (cntP (rawP a)) _ (Nat.le_refl _) (ln_raw d a hg hs) (tf_raw d a hg)
theorem At3.belowP {w w':World}{b o:Nat}{h x:Sl}{f:Int} (g:At3 w b o h x f) (hb:Below w.heap.size w w'):At3 w' b o h x f:=At3.lat (H:=fun _=>False) g (fun e=>e) (Lat.below hb)
structure P2 (w W:World) (h1 x1:Sl) (f1:Int) (h2 x2:Sl) (f2:Int):Prop where
 one:At3 W w.heap.size 0 h1 x1 f1
 two:At3 W (w.heap.size+1) 0 h2 x2 f2
 bel:Below w.heap.size w W
theorem P2.step {w W W':World}{h1 x1 h2 x2:Sl}{f1 f2:Int} (h:P2 w W h1 x1 f1 h2 x2 f2) (hb:Below W.heap.size W W'):P2 w W' h1 x1 f1 h2 x2 f2:=⟨At3.belowP h.one hb,At3.belowP h.two hb,bel_both h.bel hb⟩
theorem P2.new (w:World) (h1 x1:Sl) (f1:Int) (h2 x2:Sl) (f2:Int):P2 w ((w.alloc (plO h1 x1 f1)).alloc (plO h2 x2 f2)) h1 x1 f1 h2 x2 f2:=by
 have h:=at3_box (w.alloc (plO h1 x1 f1)) h2 x2 f2
 have e:(w.alloc (plO h1 x1 f1)).heap.size=w.heap.size+1:=by simp
 rw [e] at h
 exact ⟨At3.belowP (at3_box w h1 x1 f1) (bel1 _ _),h,bel2 w _ _⟩
theorem P2.more {w W W':World}{h1 x1 h2 x2:Sl}{f1 f2:Int} (g:P2 w W h1 x1 f1 h2 x2 f2) (hb:Below (w.heap.size+2) W W'):P2 w W' h1 x1 f1 h2 x2 f2 :=
 ⟨g.one.of fun j=>hb.cell (p:=⟨w.heap.size,j,none⟩) (by show w.heap.size < _;omega),g.two.of fun j=>hb.cell (p:=⟨w.heap.size+1,j,none⟩) (by show w.heap.size+1 < _;omega),g.bel.trans (hb.mono (by omega))⟩
theorem P2.dr {w W:World}{h1 x1 h2 x2:Sl}{f1 f2:Int} (g:P2 w W h1 x1 f1 h2 x2 f2):P2 w W.drew h1 x1 f1 h2 x2 f2:=g.step (Below.refl _ W).drew
theorem P2.self {w W:World}{h1 x1 h2 x2:Sl}{f1 f2:Int} (g:P2 w W h1 x1 f1 h2 x2 f2):P2 w W h1 x1 f1 h2 x2 f2:=g
theorem P2.sz {w W:World}{h1 x1 h2 x2:Sl}{f1 f2:Int} (g:P2 w W h1 x1 f1 h2 x2 f2):w.heap.size+2<=W.heap.size:=At3.lt g.two
structure P1 (w W:World) (h x:Sl) (f:Int):Prop where
 one:At3 W w.heap.size 0 h x f
 res:W.heap[w.heap.size+1]?=some (plO nilS nilS 0)
 bel:Below w.heap.size w W
theorem P1.step {w W W':World}{h x:Sl}{f:Int} (g:P1 w W h x f) (hb:Below W.heap.size W W'):P1 w W' h x f:=⟨At3.belowP g.one hb,by rw [hb.block _ (lt_blk g.res)];exact g.res,bel_both g.bel hb⟩
theorem P1.sz {w W:World}{h x:Sl}{f:Int} (g:P1 w W h x f):w.heap.size+2<=W.heap.size:=lt_blk g.res
theorem P1.new (w:World) (h x:Sl) (f:Int):P1 w ((w.alloc (plO h x f)).alloc (plO nilS nilS 0)) h x f:=by
 have h1:=heap_alloc_new (w.alloc (plO h x f)) (plO nilS nilS 0)
 rw [show (w.alloc (plO h x f)).heap.size=w.heap.size+1 by simp] at h1
 exact ⟨At3.belowP (at3_box w h x f) (bel1 _ _),h1,bel2 w _ _⟩
theorem ixP_in {n i:Nat} (h:i < n):ixP n i=i:=by unfold ixP;split <;> omega
theorem epart_box {Ha:Nat->Prop}{s:List Nat}{l:List PA}{h:Sl}{p:V8} (w:World) (g:AV Ha w (.boxes s l) h p) (i:Nat) (hi:i < l.length) :
  Calls Tryz.prog 94 #[arrV h p,.int .i64 (i:Int)] w (AaR Ha w (partA (.boxes s l) i)):=by
 have HS0:=Lib.hid (A1.new w h p)
 have HC:=Lib.hid (fun W (hb:Below w.heap.size w W)=>av_class g W hb)
 have HB:Hid (∀ W,Below w.heap.size w W->Calls Tryz.prog 137 #[p.v,.int .i64 (i:Int)] W (BoxR Ha w W (partA (.boxes s l) i))):=fun W hb=>by
  have h1:=vbox_any g i hi W hb
  have e:l[i]=partA (.boxes s l) i:=by
   show _=l.getD (ixP l.length i) default
   rw [ixP_in hi]
   simp [List.getD,hi]
  rw [e] at h1
  exact h1
 rw [show (PA.boxes s l).fill=2 from rfl] at HC
 unfold BoxR at HB
 generalize partA (.boxes s l) i=pa at HB ⊢
 clear g hi
 unfold AaR
 go_enter Tryz.func94,Tryz.ntmps94
 obtain ⟨h0,h1,h2,h3,h4,h5,h6,h7,h8⟩:=HS0.out.one.c
 go_wp2_with fail
 refine (HC.out _ HS0.out.bel).mono ?_
 rintro e w2 ⟨rfl,hb⟩
 have HS2:=Lib.hid (HS0.out.step hb)
 clear hb h0 h1 h2 h3 h4 h5 h6 h7 h8 HS0
 obtain ⟨h0,h1,h2,h3,h4,h5,h6,h7,h8⟩:=HS2.out.one.c
 go_wp2_with fail
 refine (HB.out _ HS2.out.bel).mono ?_
 rintro e w3 ⟨h',p',rfl,hav,hb⟩
 have HS3:=Lib.hid (HS2.out.step hb)
 have HAV:Hid (AV Ha (set9 w3 (w.heap.size+1) (sv h') (.int .i64 p'.k) (sv p'.b) (.int .i64 p'.bn) (sv p'.s) (sv p'.i) (sv p'.f) (sv p'.c) (sv p'.x)) pa h' p'):=AV.step hav (below_set9 HS3.out.bel (Nat.le_succ _) _ _ _ _ _ _ _ _ _)
 clear hav hb h0 h1 h2 h3 h4 h5 h6 h7 h8 HS2
 obtain ⟨⟨y0,y1,y2,y3,y4,y5,y6,y7,y8⟩,yz⟩:=zero_block HS3.out.res
 go_wp2
 refine bodyPost_ret (v:=arrV h' p') ?_ rfl ⟨h',p',rfl,HAV.out,below_set9 HS3.out.bel (Nat.le_succ _) _ _ _ _ _ _ _ _ _⟩
 exact ret_arr (fn:=Tryz.f94) (p:=4) rfl _ _ (w.heap.size+1) (by rfl) (set9_block HS3.out.res _ _ _ _ _ _ _ _ _)
theorem epart_flat {Ha:Nat->Prop}{a:PA}{h:Sl}{p:V8} (w:World) (g:AV Ha w a h p) (hHa:∀ b,Ha b->b < w.heap.size) (i:Nat) (hi:i < a.len) (hl:a.len<=1000000) (hz:a.fill≠2) (pa:PA) (hpa:partA a i=pa)
  (hcut:∀ (H:Nat->Prop) (W:World) (z1 z2:Int),z1=(i:Nat)->z2=((i+1:Nat):Int)->Below w.heap.size w W->(∀ b,H b->b < W.heap.size)->(∀ b,b < w.heap.size->H b->Ha b)->Calls Tryz.prog 139 #[p.v,.int .i64 z1,.int .i64 z2] W (CutA H W pa)) :
  Calls Tryz.prog 94 #[arrV h p,.int .i64 (i:Int)] w (AaR Ha w (partA a i)):=by
 have HS0:=Lib.hid (A1.new w h p)
 have HH:=Lib.hid hHa
 have HC:=Lib.hid (fun W (hb:Below w.heap.size w W)=>av_class g W hb)
 have HB:=Lib.hid hcut
 have z2:((a.fill:Int)==2)=false:=by simp;omega
 have hib:i<=2000000:=by omega
 unfold CutA at HB
 rw [hpa]
 generalize a.fill=za at HC z2
 clear g hHa hz hcut hpa hi hl
 unfold AaR
 have hw1:IntKind.i64.wrap ((i:Int)+1)=(i:Int)+1:=IntWalk.i64_in _ (by omega)
 go_enter Tryz.func94,Tryz.ntmps94
 obtain ⟨h0,h1,h2,h3,h4,h5,h6,h7,h8⟩:=HS0.out.one.c
 go_wp2_with fail
 refine (HC.out _ HS0.out.bel).mono ?_
 rintro e w2 ⟨rfl,hb⟩
 have HS2:=Lib.hid (HS0.out.step hb)
 clear hb h0 h1 h2 h3 h4 h5 h6 h7 h8 HS0
 obtain ⟨h0,h1,h2,h3,h4,h5,h6,h7,h8⟩:=HS2.out.one.c
 go_wp2_with fail
 refine (HB.out (fun b=>Ha b\/b=w.heap.size+1) _ (i:Int) ((i:Int)+1) (by simp) (by simp) HS2.out.bel (fun b e=>by
  have h9:=HS2.out.sz
  rcases e with e | e
  ·have:=HH.out b e;omega
  ·omega) (fun b hb9 e=>by
  rcases e with e | e
  ·exact e
  ·omega)).mono ?_
 rintro e w3 ⟨p',rfl,hav,hb⟩
 have HS3:=Lib.hid (HS2.out.step hb)
 have HAV:Hid (AV Ha (set9 w3 (w.heap.size+1) (sv nilS) (.int .i64 p'.k) (sv p'.b) (.int .i64 p'.bn) (sv p'.s) (sv p'.i) (sv p'.f) (sv p'.c) (sv p'.x)) pa nilS p'):=AV.sub (fun b _ e => .inl e) (AV.lat (Lat.set9 (G:=w.heap.size+1) (.inr rfl) _ _ _ _ _ _ _ _ _) hav)
 clear hav hb h0 h1 h2 h3 h4 h5 h6 h7 h8 HS2
 obtain ⟨⟨y0,y1,y2,y3,y4,y5,y6,y7,y8⟩,yz⟩:=zero_block HS3.out.res
 go_wp2
 refine bodyPost_ret (v:=arrV nilS p') ?_ rfl ⟨nilS,p',rfl,HAV.out,below_set9 HS3.out.bel (Nat.le_succ _) _ _ _ _ _ _ _ _ _⟩
 exact ret_arr (fn:=Tryz.f94) (p:=4) rfl _ _ (w.heap.size+1) (by rfl) (set9_block HS3.out.res _ _ _ _ _ _ _ _ _)
theorem epart_any {Ha:Nat->Prop}{a:PA}{h:Sl}{p:V8} (w:World) (g:AV Ha w a h p) (hHa:∀ b,Ha b->b < w.heap.size) (i:Nat) (hi:i < a.len) (hl:a.len<=1000000) :
  Calls Tryz.prog 94 #[arrV h p,.int .i64 (i:Int)] w (AaR Ha w (partA a i)):=by
 cases a with
 | boxes s l=>exact epart_box w g i hi
 | nums s l=>exact epart_flat w g hHa i hi hl (show (0:Nat)≠2 by decide) (.nums [] [l.getD i 0]) (by rw [partA,ixP_in (show i < l.length from hi)]) fun H W z1 z2 e1 e2 hb hH hs=>cutA_num g hl i hi z1 z2 e1 e2 W hb hH hs
 | chars s l=>exact epart_flat w g hHa i hi hl (show (1:Nat)≠2 by decide) (.chars [] [l.getD i 0]) (by rw [partA,ixP_in (show i < l.length from hi)]) fun H W z1 z2 e1 e2 hb hH _=>cutA_chr g hl i hi z1 z2 e1 e2 W hb hH
end Go.Proofs.YtbakjaliponbbaaGreatDoor
