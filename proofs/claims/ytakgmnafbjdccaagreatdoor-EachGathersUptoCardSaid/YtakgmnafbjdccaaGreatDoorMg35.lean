/- each.Gather of arrays. Two plain arrays in blocks of a call's own. The walk of rebusref24.part. The walks of each.Part and of .. Conditions: as each theorem says. -/
import Derived.Test.YtakgmnafbjdccaaGreatDoorMg34
import Derived.Test.YtakgmnafbjdccaaGreatDoorMg26
import Derived.Test.YtakgmnafbjdccaaGreatDoorMg23
import Derived.Test.YtakgmnafbjdccaaGreatDoorMg31
import Derived.Test.YtakgmnafbjdccaaGreatDoorMg24
import Derived.Deep.CutBlock
import Derived.Test.YtakgmnafbjdccaaGreatDoorMg28
set_option maxRecDepth 100000
set_option maxHeartbeats 2000000
namespace Go.Proofs.YtakgmnafbjdccaaGreatDoor
open Go Go.RowKit Go.Proofs Fl
def num0:PA->Nat
 | .nums _ l=>l.getD 0 0
 | _=>0
def chr0:PA->Int
 | .chars _ l=>l.getD 0 0
 | _=>0
def gokA (l:List PA):Bool:=gok (fun j=>(l.getD j default).shape.length) (fun j=>(l.getD j default).fill) l.length
def gatA (s:List Nat) (l:List PA):PA :=
 if gokA l then (if (l.getD 0 default).fill=0 then .nums s (l.map num0) else .chars s (l.map chr0)) else .boxes s l
theorem gok_at {d cl:Nat->Nat}:∀ {m:Nat},gok d cl m=true->∀ j,j < m->d j=0/\cl j≠2/\cl j=cl 0
 | 0,_,j,hj=>absurd hj (Nat.not_lt_zero _)
 | m+1,h,j,hj=>by
  unfold gok at h
  simp only [Bool.and_eq_true,beq_iff_eq,bne_iff_ne] at h
  obtain ⟨⟨⟨h1,h2⟩,h3⟩,h4⟩:=h
  rcases Nat.lt_or_ge j m with h5 | h5
  ·exact gok_at h1 j h5
  ·obtain rfl:j=m:=by omega
   exact ⟨h2,h3,h4⟩
theorem getD_at {l:List PA}{j:Nat} (hj:j < l.length):l.getD j default=l[j]:=by simp [List.getD,hj]
theorem pa_nums {a:PA} (hs:a.shape.length=0) (hf:a.fill=0) (h1:a.len=1):a= .nums [] [num0 a]:=by
 cases a with
 | nums s l =>
  have e:s=[]:=List.eq_nil_of_length_eq_zero hs
  subst e
  have h1:l.length=1:=h1
  match l,h1 with
  | [x],_=>rfl
 | chars s l=>exact absurd hf (by intro h;cases h)
 | boxes s l=>exact absurd hf (by intro h;cases h)
theorem pa_chars {a:PA} (hs:a.shape.length=0) (hf:a.fill=1) (h1:a.len=1):a= .chars [] [chr0 a]:=by
 cases a with
 | nums s l=>exact absurd hf (by intro h;cases h)
 | chars s l =>
  have e:s=[]:=List.eq_nil_of_length_eq_zero hs
  subst e
  have h1:l.length=1:=h1
  match l,h1 with
  | [x],_=>rfl
 | boxes s l=>exact absurd hf (by intro h;cases h)
theorem fill_le (a:PA):a.fill<=2:=by
 cases a with
 | nums s l=>exact Nat.zero_le _
 | chars s l=>exact Nat.le_succ _
 | boxes s l=>exact Nat.le_refl _
theorem v8_inj {p q:V8} (h:p.v=q.v):p=q:=by
 obtain ⟨k,⟨b1,b2,b3⟩,bn,⟨s1,s2,s3⟩,⟨i1,i2,i3⟩,⟨f1,f2,f3⟩,⟨c1,c2,c3⟩,⟨x1,x2,x3⟩⟩:=p
 obtain ⟨k',⟨b1',b2',b3'⟩,bn',⟨s1',s2',s3'⟩,⟨i1',i2',i3'⟩,⟨f1',f2',f3'⟩,⟨c1',c2',c3'⟩,⟨x1',x2',x3'⟩⟩:=q
 simp [V8.v] at h
 obtain ⟨rfl,⟨rfl,rfl,rfl⟩,rfl,⟨rfl,rfl,rfl⟩,⟨rfl,rfl,rfl⟩,⟨rfl,rfl,rfl⟩,⟨rfl,rfl,rfl⟩,rfl,rfl,rfl⟩:=h
 rfl
theorem range_list {α:Type} (l:List PA) (f:PA->α):(List.range l.length).map (fun j=>f (l.getD j default))=l.map f:=by
 apply List.ext_getElem
 ·simp
 ·intro i h1 h2
  have hi:i < l.length:=by simpa using h2
  simp [List.getD,hi]
theorem numS_of {H:Nat->Prop}{w:World}{s:List Nat}{x:Nat}{h:Sl}{p:V8} (g:AV H w (.nums s [x]) h p) (W:World) (hb:Below w.heap.size w W):NumS H W p [x]:=by
 rcases g.nums with h | ⟨h,_⟩
 ·exact ⟨h.num.lat (Lat.below hb),h.least⟩
 ·cases h
theorem join_zero (K:Nat->Prop) (Φ:Value->World->Prop) (a:Option Addr) (c:Nat) (W:World) (hΦ:∀ W,Φ zbP.v W):Calls Tryz.prog 71 #[.slice a 0 c] W (JoinR K W Φ):=by
 refine (join_none a c W).mono ?_
 rintro e w' ⟨rfl,hb⟩
 exact ⟨1,nilS,0,nilS,nilS,nilS,nilS,nilS,rfl,fun W _ _=>hΦ W,hb⟩
theorem egather_any (H:Nat->Prop) (sh:List Nat) (l:List PA) (s x:Sl) (w:World) (hH:∀ b,H b->b < w.heap.size) (hl:l.length<=1000000) (hx:ASl H w x l) (hsh:ShV H w s sh) (hsl:sh.length<=1048576)
  (hone:∀ a∈l,a.shape.length=0->a.fill≠2->a.len=1) (hdl:∀ a∈l,a.shape.length<=1048576) :
  Calls Tryz.prog 23 #[sv s,sv x] w (AaR H w (gatA sh l)):=by
 obtain ⟨A,m,c⟩:=x
 obtain rfl:m=l.length:=hx.1
 have hrow:∀ j,∃ (h:Sl) (p:V8),j < l.length->∃ b o,A=some ⟨b,o,none⟩/\AV H w (l.getD j default) h p/\∀ w1,Lat H w w1->At9 w1 b (o+j*9) h p:=fun j=>by
  by_cases hj:j < l.length
  ·obtain ⟨b,o,h,p,e,_,hav,hat⟩:=hx.at_ j hj
   exact ⟨h,p,fun _=>⟨b,o,e,by rw [getD_at hj];exact hav,hat⟩⟩
  ·exact ⟨nilS,zeroP,fun h=>absurd h hj⟩
 obtain ⟨hh,hrow⟩:=Classical.axiomOfChoice hrow
 obtain ⟨pp,hrow⟩:=Classical.axiomOfChoice hrow
 obtain ⟨b,o,hA⟩:∃ b o,0 < l.length->A=some ⟨b,o,none⟩:=by
  by_cases h0:0 < l.length
  ·obtain ⟨b,o,e,_⟩:=hrow 0 h0
   exact ⟨b,o,fun _=>e⟩
  ·exact ⟨0,0,fun h=>absurd h h0⟩
 have hav:∀ j,j < l.length->AV H w (l.getD j default) (hh j) (pp j):=fun j hj=>by
  obtain ⟨_,_,_,h,_⟩:=hrow j hj
  exact h
 have hat:∀ j,j < l.length->∀ W,Below w.heap.size w W->At9 W b (o+j*9) (hh j) (pp j):=fun j hj W hb=>by
  obtain ⟨b',o',e,_,h⟩:=hrow j hj
  rw [hA (by omega)] at e
  injection e with e
  injection e with e1 e2 _
  subst e1;subst e2
  exact h W (Lat.below hb)
 have hmem:∀ j,j < l.length->l.getD j default∈l:=fun j hj=>by rw [getD_at hj];exact List.getElem_mem hj
 have hlen:∀ j,j < l.length->(l.getD j default).shape.length=0->(l.getD j default).fill≠2->(l.getD j default).len=1:=fun j hj=>hone _ (hmem j hj)
 have hgo:∀ Φ,(∀ K W g,(∀ b,K b->b < W.heap.size)->Below w.heap.size w W->gokA l=true->VRow W g l.length pp->Calls Tryz.prog 71 #[.slice (some ⟨g,0,none⟩) l.length l.length] W (JoinR K W Φ)) ->
   Calls Tryz.prog 23 #[sv s,sv (A,l.length,c)] w (GatR H w sh l Φ (gokA l)):=fun Φ hΦ =>
  egather_walk H sh s A b o l.length c hh pp (fun j=>(l.getD j default).shape.length) (fun j=>(l.getD j default).fill) l Φ w hH hl hA hat (fun j hj=>(hav j hj).shape.len) (fun j hj W hb=>av_class (hav j hj) W hb)
   (fun j=>by
    by_cases hj:j < l.length
    ·exact hdl _ (hmem j hj)
    ·simp [List.getD,hj];decide) hsh hsl
   (fun _ K W hK hKb hb=>boxes_any (x:=(A,l.length,c)) ((hx.sub hK).step hb) (by omega) hKb)
   (fun ht K W g hK hb hr=>hΦ K W g hK hb ht hr)
 have hcase:gokA l=false\/gokA l=true:=by cases gokA l <;> simp
 rcases hcase with ht | ht
 ·rw [show gatA sh l= .boxes sh l by unfold gatA;rw [ht];rfl]
  refine (hgo (fun _ _=>True) (fun K W g _ _ h _=>by rw [ht] at h;cases h)).mono ?_
  rintro e w' ⟨h,p,rfl,hsv,hc,hb⟩
  refine ⟨h,p,rfl,?_,hb⟩
  rcases hc with ⟨hf,_⟩ | ⟨_,x',rfl,hx'⟩
  ·rw [ht] at hf;cases hf
  ·exact hx'.av hsv
 ·have hg:=fun j hj=>gok_at (d:=fun j=>(l.getD j default).shape.length) (cl:=fun j=>(l.getD j default).fill) (m:=l.length) ht j hj
  by_cases f0:(l.getD 0 default).fill=0
  ·rw [show gatA sh l= .nums sh (l.map num0) by unfold gatA;rw [ht,if_pos f0];rfl]
   refine (hgo (TwT l.length fun j=>num0 (l.getD j default)) (fun K W g hK hb _ hr=>?_)).mono ?_
   ·by_cases h0:l.length=0
    ·rw [h0]
     exact join_zero K _ _ _ W fun _ => .inr ⟨rfl,rfl⟩
    ·refine (join_nums K H g l.length l.length (fun j=>num0 (l.getD j default)) pp W hK (by omega) hl hr (fun j hj=>?_)).mono fun e w' h=>?_
     ·have g1:=hav j hj
      obtain ⟨g2,g3,g4⟩:=hg j hj
      rw [pa_nums g2 (g4.trans f0) (hlen j hj g2 g3)] at g1
      exact numS_of g1 W hb
     ·obtain ⟨k,b,bn,s,i,f,c,x,h1,h2,h3⟩:=h
      exact ⟨k,b,bn,s,i,f,c,x,h1,h2.imp fun _ h => .inl h,h3⟩
   ·rintro e w' ⟨h,p,rfl,hsv,hc,hb⟩
    refine ⟨h,p,rfl,?_,hb⟩
    rcases hc with ⟨_,hk⟩ | ⟨hf,_⟩
    ·obtain ⟨k,b,bn,s,i,f,c,x⟩:=p
     rw [AV]
     have h2:=numZ_of (G:=fun j=>num0 (l.getD j default)) hk
     rw [range_list l num0] at h2
     exact ⟨hsv,h2⟩
    ·rw [ht] at hf;cases hf
  ·rw [show gatA sh l= .chars sh (l.map chr0) by unfold gatA;rw [ht,if_neg f0];rfl]
   have h0:0 < l.length:=by
    rcases Nat.eq_zero_or_pos l.length with h | h
    ·have e0:l=[]:=List.eq_nil_of_length_eq_zero h
     subst e0
     exact absurd rfl f0
    ·exact h
   have f1:(l.getD 0 default).fill=1:=by
    have h1:=fill_le (l.getD 0 default)
    have h2:=(hg 0 h0).2.1
    omega
   refine (hgo (fun u W=>∃ y:Sl,u=(charsP y).v/\Reads1 W (sv y) ((List.range l.length).map fun j => .int .i32 (chr0 (l.getD j default)))) (fun K W g hK hb _ hr=>?_)).mono ?_
   ·refine join_chars K H g l.length l.length (fun j=>chr0 (l.getD j default)) pp W hK h0 hl hr (fun j hj=>?_)
    have g1:=hav j hj
    obtain ⟨g2,g3,g4⟩:=hg j hj
    rw [pa_chars g2 (g4.trans f1) (hlen j hj g2 g3)] at g1
    obtain ⟨y,e,h⟩:=g1.chars
    exact ⟨y,e,h.lat (Lat.below hb)⟩
   ·rintro e w' ⟨h,p,rfl,hsv,hc,hb⟩
    refine ⟨h,p,rfl,?_,hb⟩
    rcases hc with ⟨_,hk⟩ | ⟨hf,_⟩
    ·obtain ⟨y,e,_⟩:=hk.now
     have e:=v8_inj e
     subst e
     rw [AV]
     refine ⟨hsv,y,rfl,hk.imp fun W h=>?_⟩
     obtain ⟨y',e',h'⟩:=h
     have e2:=v8_inj e'
     injection e2 with _ _ _ _ _ _ e3 _
     rw [e3]
     have e4:(l.map chr0).map (Value.int .i32)=(List.range l.length).map (fun j=>Value.int .i32 (chr0 (l.getD j default))):=by
      rw [List.map_map]
      exact (range_list l (fun a=>Value.int .i32 (chr0 a))).symm
     rw [e4]
     exact h'
    ·rw [ht] at hf;cases hf
theorem At3.belowP {w w':World}{b o:Nat}{h x:Sl}{f:Int} (g:At3 w b o h x f) (hb:Below w.heap.size w w'):At3 w' b o h x f:=At3.lat (H:=fun _=>False) g (fun e=>e) (Lat.below hb)
structure P2 (w W:World) (h1 x1:Sl) (f1:Int) (h2 x2:Sl) (f2:Int):Prop where
 one:At3 W w.heap.size 0 h1 x1 f1
 two:At3 W (w.heap.size+1) 0 h2 x2 f2
 bel:Below w.heap.size w W
theorem P2.step {w W W':World}{h1 x1 h2 x2:Sl}{f1 f2:Int} (h:P2 w W h1 x1 f1 h2 x2 f2) (hb:Below W.heap.size W W'):P2 w W' h1 x1 f1 h2 x2 f2:=⟨At3.belowP h.one hb,At3.belowP h.two hb,bel_both h.bel hb⟩
theorem P2.new (w:World) (h1 x1:Sl) (f1:Int) (h2 x2:Sl) (f2:Int):P2 w ((w.alloc (plO h1 x1 f1)).alloc (plO h2 x2 f2)) h1 x1 f1 h2 x2 f2:=by
 have h:=at3_box (w.alloc (plO h1 x1 f1)) h2 x2 f2
 have e:(w.alloc (plO h1 x1 f1)).heap.size=w.heap.size+1:=by simp
 rw [e] at h
 exact ⟨At3.belowP (at3_box w h1 x1 f1) (bel1 _ _),h,bel2 w _ _⟩
theorem P2.more {w W W':World}{h1 x1 h2 x2:Sl}{f1 f2:Int} (g:P2 w W h1 x1 f1 h2 x2 f2) (hb:Below (w.heap.size+2) W W'):P2 w W' h1 x1 f1 h2 x2 f2 :=
 ⟨g.one.of fun j=>hb.cell (p:=⟨w.heap.size,j,none⟩) (by show w.heap.size < _;omega),g.two.of fun j=>hb.cell (p:=⟨w.heap.size+1,j,none⟩) (by show w.heap.size+1 < _;omega),g.bel.trans (hb.mono (by omega))⟩
theorem P2.dr {w W:World}{h1 x1 h2 x2:Sl}{f1 f2:Int} (g:P2 w W h1 x1 f1 h2 x2 f2):P2 w W.drew h1 x1 f1 h2 x2 f2:=g.step (Below.refl _ W).drew
theorem P2.self {w W:World}{h1 x1 h2 x2:Sl}{f1 f2:Int} (g:P2 w W h1 x1 f1 h2 x2 f2):P2 w W h1 x1 f1 h2 x2 f2:=g
theorem P2.sz {w W:World}{h1 x1 h2 x2:Sl}{f1 f2:Int} (g:P2 w W h1 x1 f1 h2 x2 f2):w.heap.size+2<=W.heap.size:=At3.lt g.two
def PvS (H:Nat->Prop) (w W:World) (t:RP) (e:Ending) (w':World):Prop:=∃ h x f,e= .returned (plV h x f)/\(PV H w t h x f\/(h=nilS/\(∃ k n c,t= .mk [] [.mk k n c []] k/\k≠2)/\PV H w' t h x f))/\Below W.heap.size W w'
theorem pvS_old {H:Nat->Prop}{w W w':World}{t:RP}{h x:Sl}{f:Int} (hp:PV H w t h x f) (hb:Below W.heap.size W w'):PvS H w W t (.returned (plV h x f)) w':=⟨h,x,f,rfl,.inl hp,hb⟩
theorem pvS_new {H:Nat->Prop}{w W w':World}{k:Int}{n:Nat}{c:Int}{x:Sl}{f:Int} (hk:k≠2) (hp:PV H w' (.mk [] [.mk k n c []] k) nilS x f) (hb:Below W.heap.size W w'):PvS H w W (.mk [] [.mk k n c []] k) (.returned (plV nilS x f)) w':=⟨nilS,x,f,rfl,.inr ⟨rfl,⟨k,n,c,rfl,hk⟩,hp⟩,hb⟩
structure P1 (w W:World) (h x:Sl) (f:Int):Prop where
 one:At3 W w.heap.size 0 h x f
 res:W.heap[w.heap.size+1]?=some (plO nilS nilS 0)
 bel:Below w.heap.size w W
theorem P1.step {w W W':World}{h x:Sl}{f:Int} (g:P1 w W h x f) (hb:Below W.heap.size W W'):P1 w W' h x f:=⟨At3.belowP g.one hb,by rw [hb.block _ (lt_blk g.res)];exact g.res,bel_both g.bel hb⟩
theorem P1.sz {w W:World}{h x:Sl}{f:Int} (g:P1 w W h x f):w.heap.size+2<=W.heap.size:=lt_blk g.res
theorem P1.new (w:World) (h x:Sl) (f:Int):P1 w ((w.alloc (plO h x f)).alloc (plO nilS nilS 0)) h x f:=by
 have h1:=heap_alloc_new (w.alloc (plO h x f)) (plO nilS nilS 0)
 rw [show (w.alloc (plO h x f)).heap.size=w.heap.size+1 by simp] at h1
 exact ⟨At3.belowP (at3_box w h x f) (bel1 _ _),h1,bel2 w _ _⟩
theorem ixP_in {n i:Nat} (h:i < n):ixP n i=i:=by unfold ixP;split <;> omega
theorem epart_box {Ha:Nat->Prop}{s:List Nat}{l:List PA}{h:Sl}{p:V8} (w:World) (g:AV Ha w (.boxes s l) h p) (i:Nat) (hi:i < l.length) :
  Calls Tryz.prog 20 #[arrV h p,.int .i64 (i:Int)] w (AaR Ha w (partA (.boxes s l) i)):=by
 have HS0:=Lib.hid (A1.new w h p)
 have HC:=Lib.hid (fun W (hb:Below w.heap.size w W)=>av_class g W hb)
 have HB:Hid (∀ W,Below w.heap.size w W->Calls Tryz.prog 67 #[p.v,.int .i64 (i:Int)] W (BoxR Ha w W (partA (.boxes s l) i))):=fun W hb=>by
  have h1:=vbox_any g i hi W hb
  have e:l[i]=partA (.boxes s l) i:=by
   show _=l.getD (ixP l.length i) default
   rw [ixP_in hi]
   simp [List.getD,hi]
  rw [e] at h1
  exact h1
 rw [show (PA.boxes s l).fill=2 from rfl] at HC
 unfold BoxR at HB
 generalize partA (.boxes s l) i=pa at HB ⊢
 clear g hi
 unfold AaR
 go_enter Tryz.func20,Tryz.ntmps20
 obtain ⟨h0,h1,h2,h3,h4,h5,h6,h7,h8⟩:=HS0.out.one.c
 go_wp2_with fail
 refine (HC.out _ HS0.out.bel).mono ?_
 rintro e w2 ⟨rfl,hb⟩
 have HS2:=Lib.hid (HS0.out.step hb)
 clear hb h0 h1 h2 h3 h4 h5 h6 h7 h8 HS0
 obtain ⟨h0,h1,h2,h3,h4,h5,h6,h7,h8⟩:=HS2.out.one.c
 go_wp2_with fail
 refine (HB.out _ HS2.out.bel).mono ?_
 rintro e w3 ⟨h',p',rfl,hav,hb⟩
 have HS3:=Lib.hid (HS2.out.step hb)
 have HAV:Hid (AV Ha (set9 w3 (w.heap.size+1) (sv h') (.int .i64 p'.k) (sv p'.b) (.int .i64 p'.bn) (sv p'.s) (sv p'.i) (sv p'.f) (sv p'.c) (sv p'.x)) pa h' p'):=AV.step hav (below_set9 HS3.out.bel (Nat.le_succ _) _ _ _ _ _ _ _ _ _)
 clear hav hb h0 h1 h2 h3 h4 h5 h6 h7 h8 HS2
 obtain ⟨⟨y0,y1,y2,y3,y4,y5,y6,y7,y8⟩,yz⟩:=zero_block HS3.out.res
 go_wp2
 refine bodyPost_ret (v:=arrV h' p') ?_ rfl ⟨h',p',rfl,HAV.out,below_set9 HS3.out.bel (Nat.le_succ _) _ _ _ _ _ _ _ _ _⟩
 exact ret_arr (fn:=Tryz.f20) (p:=4) rfl _ _ (w.heap.size+1) (by rfl) (set9_block HS3.out.res _ _ _ _ _ _ _ _ _)
theorem epart_flat {Ha:Nat->Prop}{a:PA}{h:Sl}{p:V8} (w:World) (g:AV Ha w a h p) (hHa:∀ b,Ha b->b < w.heap.size) (i:Nat) (hi:i < a.len) (hl:a.len<=1000000) (hz:a.fill≠2) (pa:PA) (hpa:partA a i=pa)
  (hcut:∀ (H:Nat->Prop) (W:World) (z1 z2:Int),z1=(i:Nat)->z2=((i+1:Nat):Int)->Below w.heap.size w W->(∀ b,H b->b < W.heap.size)->(∀ b,b < w.heap.size->H b->Ha b)->Calls Tryz.prog 68 #[p.v,.int .i64 z1,.int .i64 z2] W (CutA H W pa)) :
  Calls Tryz.prog 20 #[arrV h p,.int .i64 (i:Int)] w (AaR Ha w (partA a i)):=by
 have HS0:=Lib.hid (A1.new w h p)
 have HH:=Lib.hid hHa
 have HC:=Lib.hid (fun W (hb:Below w.heap.size w W)=>av_class g W hb)
 have HB:=Lib.hid hcut
 have z2:((a.fill:Int)==2)=false:=by simp;omega
 have hib:i<=2000000:=by omega
 unfold CutA at HB
 rw [hpa]
 generalize a.fill=za at HC z2
 clear g hHa hz hcut hpa hi hl
 unfold AaR
 have hw1:IntKind.i64.wrap ((i:Int)+1)=(i:Int)+1:=IntWalk.i64_in _ (by omega)
 go_enter Tryz.func20,Tryz.ntmps20
 obtain ⟨h0,h1,h2,h3,h4,h5,h6,h7,h8⟩:=HS0.out.one.c
 go_wp2_with fail
 refine (HC.out _ HS0.out.bel).mono ?_
 rintro e w2 ⟨rfl,hb⟩
 have HS2:=Lib.hid (HS0.out.step hb)
 clear hb h0 h1 h2 h3 h4 h5 h6 h7 h8 HS0
 obtain ⟨h0,h1,h2,h3,h4,h5,h6,h7,h8⟩:=HS2.out.one.c
 go_wp2_with fail
 refine (HB.out (fun b=>Ha b\/b=w.heap.size+1) _ (i:Int) ((i:Int)+1) (by simp) (by simp) HS2.out.bel (fun b e=>by
  have h9:=HS2.out.sz
  rcases e with e | e
  ·have:=HH.out b e;omega
  ·omega) (fun b hb9 e=>by
  rcases e with e | e
  ·exact e
  ·omega)).mono ?_
 rintro e w3 ⟨p',rfl,hav,hb⟩
 have HS3:=Lib.hid (HS2.out.step hb)
 have HAV:Hid (AV Ha (set9 w3 (w.heap.size+1) (sv nilS) (.int .i64 p'.k) (sv p'.b) (.int .i64 p'.bn) (sv p'.s) (sv p'.i) (sv p'.f) (sv p'.c) (sv p'.x)) pa nilS p'):=AV.sub (fun b _ e => .inl e) (AV.lat (Lat.set9 (G:=w.heap.size+1) (.inr rfl) _ _ _ _ _ _ _ _ _) hav)
 clear hav hb h0 h1 h2 h3 h4 h5 h6 h7 h8 HS2
 obtain ⟨⟨y0,y1,y2,y3,y4,y5,y6,y7,y8⟩,yz⟩:=zero_block HS3.out.res
 go_wp2
 refine bodyPost_ret (v:=arrV nilS p') ?_ rfl ⟨nilS,p',rfl,HAV.out,below_set9 HS3.out.bel (Nat.le_succ _) _ _ _ _ _ _ _ _ _⟩
 exact ret_arr (fn:=Tryz.f20) (p:=4) rfl _ _ (w.heap.size+1) (by rfl) (set9_block HS3.out.res _ _ _ _ _ _ _ _ _)
theorem epart_any {Ha:Nat->Prop}{a:PA}{h:Sl}{p:V8} (w:World) (g:AV Ha w a h p) (hHa:∀ b,Ha b->b < w.heap.size) (i:Nat) (hi:i < a.len) (hl:a.len<=1000000) :
  Calls Tryz.prog 20 #[arrV h p,.int .i64 (i:Int)] w (AaR Ha w (partA a i)):=by
 cases a with
 | boxes s l=>exact epart_box w g i hi
 | nums s l=>exact epart_flat w g hHa i hi hl (show (0:Nat)≠2 by decide) (.nums [] [l.getD i 0]) (by rw [partA,ixP_in (show i < l.length from hi)]) fun H W z1 z2 e1 e2 hb hH hs=>cutA_num g hl i hi z1 z2 e1 e2 W hb hH hs
 | chars s l=>exact epart_flat w g hHa i hi hl (show (1:Nat)≠2 by decide) (.chars [] [l.getD i 0]) (by rw [partA,ixP_in (show i < l.length from hi)]) fun H W z1 z2 e1 e2 hb hH _=>cutA_chr g hl i hi z1 z2 e1 e2 W hb hH
theorem erp_flat {H:Nat->Prop}{w:World}{s:List Int}{items:List RI}{fill:Int}{h x:Sl}{f:Int} (g:PV H w (.mk s items fill) h x f) (i:Nat) (hi:i < items.length) (hl:items.length<=1048576) (kd:Int) (nu:Nat) (ch:Int) (hk:kd≠2) (ht:items[i]= .mk kd nu ch []) (W:World) (hb:Below w.heap.size w W) (hH:∀ b,H b->b < w.heap.size) :
  Calls Tryz.prog 22 #[plV h x f,.int .i64 (i:Int)] W (PvS H w W (.mk [] [.mk kd nu ch []] kd)):=by
 obtain ⟨-,-,hx,hit⟩:=g.open_
 obtain ⟨b,o,k,n,c,y,hxa,-,hiv,hat⟩:=hit i hi
 rw [ht] at hiv
 rw [IV] at hiv
 obtain ⟨rfl,rfl,rfl,hy,_⟩:=hiv
 obtain ⟨xA,xm,xc⟩:=x
 dsimp only at hx hxa
 subst hxa
 have HX:=Lib.hid hx
 have HAT:=Lib.hid (fun W' (hb':Below W.heap.size W W')=>hat W' (Lat.below (bel_both hb hb')))
 have HS0:=Lib.hid (P1.new W h (some ⟨b,o,none⟩,xm,xc) f)
 have HSZ:=Lib.hid hb.size
 have HH:=Lib.hid hH
 have HY:=Lib.hid hy
 have k2:(k==2)=false:=by simpa using hk
 have HKD:=Lib.hid hk
 have hlt:(i:Int) < (xm:Int):=by omega
 have hxb:xm<=1048576:=by omega
 have hib:i < xm:=by omega
 clear g hi hl ht hb hk hH hit hat hx hy
 go_enter Tryz.func22,Tryz.ntmps22
 obtain ⟨p0,p1,p2⟩:=at3_c HS0.out.one
 dsimp only at p1
 obtain ⟨w1,hw1⟩:∃ w1,w1=(W.alloc (plO h (some ⟨b,o,none⟩,xm,xc) f)).alloc (plO nilS nilS 0):=⟨_,rfl⟩
 have HW1:=Lib.hid hw1
 rw [<- hw1] at HS0
 obtain ⟨t0,t1,t2,t3⟩:=HAT.out _ HS0.out.bel
 rw [HW1.out] at t0 t1 t2 t3
 clear hw1
 have hst:=fun md=>st_item w1 k 0 n 0 (.slice none 0 0) 55 md
 have HB2:=Lib.hid (bel1 w1 (itO k n c y))
 have HN2:=Lib.hid (heap_alloc_new w1 (itO k n c y))
 obtain ⟨⟨d0,d1,d2,d3⟩,dz⟩:=block4 HN2.out
 have HS2:=Lib.hid (HS0.out.step HB2.out)
 have HB3:=Lib.hid (bel1 (w1.alloc (itO k n c y)) (itO k n c y))
 have HS3:=Lib.hid (HS2.out.step HB3.out)
 obtain ⟨⟨z0,z1,z2⟩,zz⟩:=block3 HS3.out.res
 have HI4:Hid (At4 (set3 ((w1.alloc (itO k n c y)).alloc (itO k n c y)) (W.heap.size+1) (.slice none 0 0) (.slice (some ⟨w1.heap.size+1,0,none⟩) 1 1) (.int .i64 k)) (w1.heap.size+1) (0+0*4) k n c y):=by
  have h9:=at4_box (w1.alloc (itO k n c y)) k n c y
  rw [show (w1.alloc (itO k n c y)).heap.size=w1.heap.size+1 by simp] at h9
  have h8:=HS0.out.sz
  exact At4.lat (H:=fun b=>b=W.heap.size+1) h9 (by omega) (Lat.set3 (H:=fun b=>b=W.heap.size+1) (G:=W.heap.size+1) rfl _ _ _)
 have HPV:Hid (PV H (set3 ((w1.alloc (itO k n c y)).alloc (itO k n c y)) (W.heap.size+1) (.slice none 0 0) (.slice (some ⟨w1.heap.size+1,0,none⟩) 1 1) (.int .i64 k)) (.mk [] [.mk k n c []] k) nilS (some ⟨w1.heap.size+1,0,none⟩,1,1) k):=by
  refine pv_of (fun _ _ _ => .inl ⟨none,0,rfl,rfl⟩) rfl fun j hj=>?_
  obtain rfl:j=0:=by simpa using hj
  refine ⟨w1.heap.size+1,0,k,n,c,y,rfl,fun e=>?_,?_,HI4.out⟩
  ·have h7:=HH.out _ e
   have h8:=HS0.out.sz
   have h9:=HSZ.out
   omega
  ·obtain ⟨ya,yn,yc⟩:=y
   have hy:yn=0:=HY.out
   subst hy
   exact iv_none H _ k n c ya yc
 have HBE:=Lib.hid (below_set3 HS3.out.bel (Nat.le_succ _) (.slice none 0 0) (.slice (some ⟨w1.heap.size+1,0,none⟩) 1 1) (.int .i64 k))
 have HRE:=Lib.hid (set3_block HS3.out.res (.slice none 0 0) (.slice (some ⟨w1.heap.size+1,0,none⟩) 1 1) (.int .i64 k))
 clear HI4 HB2 HB3 HS2 HY HH HAT
 go_upto_region 1 with fail
 rw [<- HW1.out] at t0 t1 t2 t3 p0 p1 p2 ⊢
 go_wp2
 refine bodyPost_ret (v:=plV nilS (some ⟨w1.heap.size+1,0,none⟩,1,1) k) ?_ rfl (pvS_new HKD.out HPV.out HBE.out)
 exact ret_plain (fn:=Tryz.f22) (p:=4) rfl _ _ (W.heap.size+1) (by rfl) HRE.out
theorem erp_box {H:Nat->Prop}{w:World}{s:List Int}{items:List RI}{fill:Int}{h x:Sl}{f:Int} (g:PV H w (.mk s items fill) h x f) (i:Nat) (hi:i < items.length) (hl:items.length<=1048576) (nu:Nat) (ch:Int) (t:RP) (ht:items[i]= .mk 2 nu ch [t]) (W:World) (hb:Below w.heap.size w W) :
  Calls Tryz.prog 22 #[plV h x f,.int .i64 (i:Int)] W (PvS H w W t):=by
 obtain ⟨-,-,hx,hit⟩:=g.open_
 obtain ⟨b,o,k,n,c,y,hxa,-,hiv,hat⟩:=hit i hi
 rw [ht] at hiv
 obtain ⟨rfl,rfl,rfl,hy,hbx⟩:=hiv.open_
 obtain ⟨bb,bo,h',y',f',hya,hnH,hpv,hat3⟩:=hbx 0 (by simp)
 obtain ⟨ya,yn,yc⟩:=y
 dsimp only at hya hy
 subst hya
 obtain rfl:yn=1:=by simpa using hy
 obtain ⟨xA,xm,xc⟩:=x
 dsimp only at hx hxa
 subst hxa
 have HAT:=Lib.hid (fun W' (hb':Below W.heap.size W W')=>hat W' (Lat.below (bel_both hb hb')))
 have HAT3:=Lib.hid (fun W' (hb':Below W.heap.size W W')=>hat3 W' (Lat.below (bel_both hb hb')))
 have HS0:=Lib.hid (P1.new W h (some ⟨b,o,none⟩,xm,xc) f)
 have HPV:Hid (PV H w t h' y' f'):=hpv
 have hlt:(i:Int) < (xm:Int):=by omega
 have hxb:xm<=1048576:=by omega
 have hib:i < xm:=by omega
 clear g hi hl ht hb hit hat hat3 hx hy hpv hnH hbx
 go_enter Tryz.func22,Tryz.ntmps22
 obtain ⟨p0,p1,p2⟩:=at3_c HS0.out.one
 dsimp only at p1
 obtain ⟨w1,hw1⟩:∃ w1,w1=(W.alloc (plO h (some ⟨b,o,none⟩,xm,xc) f)).alloc (plO nilS nilS 0):=⟨_,rfl⟩
 have HW1:=Lib.hid hw1
 rw [<- hw1] at HS0
 obtain ⟨t0,t1,t2,t3⟩:=HAT.out _ HS0.out.bel
 rw [HW1.out] at t0 t1 t2 t3
 clear hw1
 have hst:=fun md=>st_item w1 2 0 n 0 (.slice none 0 0) 55 md
 have HB2:=Lib.hid (bel1 w1 (itO 2 n c (some ⟨bb,bo,none⟩,1,yc)))
 have HN2:=Lib.hid (heap_alloc_new w1 (itO 2 n c (some ⟨bb,bo,none⟩,1,yc)))
 obtain ⟨⟨d0,d1,d2,d3⟩,dz⟩:=block4 HN2.out
 have HS2:=Lib.hid (HS0.out.step HB2.out)
 obtain ⟨⟨z0,z1,z2⟩,zz⟩:=block3 HS2.out.res
 obtain ⟨c0,c1,c2⟩:=HAT3.out _ HS2.out.bel
 simp only [Nat.zero_mul,Nat.add_zero] at c0 c1 c2
 dsimp only [sv] at c0 c1
 have HBE:=Lib.hid (below_set3 HS2.out.bel (Nat.le_succ _) (.slice h'.1 h'.2.1 h'.2.2) (.slice y'.1 y'.2.1 y'.2.2) (.int .i64 f'))
 have HRE:=Lib.hid (set3_block HS2.out.res (.slice h'.1 h'.2.1 h'.2.2) (.slice y'.1 y'.2.1 y'.2.2) (.int .i64 f'))
 clear HAT HAT3 HB2
 go_upto_region 1 with fail
 rw [<- HW1.out] at t0 t1 t2 t3 p0 p1 p2 ⊢
 go_wp2
 refine bodyPost_ret (v:=plV h' y' f') ?_ rfl (pvS_old HPV.out HBE.out)
 exact ret_plain (fn:=Tryz.f22) (p:=4) rfl _ _ (W.heap.size+1) (by rfl) HRE.out
theorem erp_any {H:Nat->Prop}{w:World}{a:PA}{h x:Sl}{f:Int} (g:PV H w (rawP a) h x f) (i:Nat) (hi:i < a.len) (hl:a.len<=1048576) (W:World) (hb:Below w.heap.size w W) (hH:∀ b,H b->b < w.heap.size) :
  Calls Tryz.prog 22 #[plV h x f,.int .i64 (i:Int)] W (PvS H w W (rawP (partA a i))):=by
 cases a with
 | nums s l =>
  have hi2:i < l.length:=hi
  rw [rawP] at g
  have e:l.getD i 0=l[i]:=by simp [List.getD,hi2]
  rw [partA,ixP_in hi2,rawP,e]
  exact erp_flat g i (by simpa using hi2) (by rw [List.length_map];exact hl) 0 _ 0 (by decide) (by simp) W hb hH
 | chars s l =>
  have hi2:i < l.length:=hi
  rw [rawP] at g
  have e:l.getD i 0=l[i]:=by simp [List.getD,hi2]
  rw [partA,ixP_in hi2,rawP,e]
  exact erp_flat g i (by simpa using hi2) (by rw [List.length_map];exact hl) 1 0 _ (by decide) (by simp) W hb hH
 | boxes s l =>
  have hi2:i < l.length:=hi
  rw [rawP] at g
  have e:l.getD i default=l[i]:=by simp [List.getD,hi2]
  rw [partA,ixP_in hi2,e]
  have hn:=rawBs_len l
  exact erp_box g i (by rw [hn];exact hi2) (by rw [hn];exact hl) 0 0 _ (rawBs_at hi2 (by rw [hn];exact hi2)) W hb
end Go.Proofs.YtakgmnafbjdccaaGreatDoor
