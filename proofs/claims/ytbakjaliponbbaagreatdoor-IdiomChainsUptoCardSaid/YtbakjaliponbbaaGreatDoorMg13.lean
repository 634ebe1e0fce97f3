/- The walks of (vec.Vec).Arrays, of slices.ContainsFunc over arrays, and of value.Good at good arrays. The walk of pervade.frame. Words of memory in drawing .. Conditions: as each theorem says. -/
import Derived.Test.YtbakjaliponbbaaGreatDoorMg12
import Derived.Test.YtbakjaliponbbaaGreatDoorMg07
import Derived.Test.YtbakjaliponbbaaGreatDoorMg11
import Derived.Test.YtbakjaliponbbaaGreatDoorMg02
import Derived.Test.YtbakjaliponbbaaGreatDoorMg09
set_option maxRecDepth 100000
set_option maxHeartbeats 1600000
namespace Go.Proofs.YtbakjaliponbbaaGreatDoor
open Go Go.RowKit Go.Proofs Fl
theorem At9.c {w:World}{b:Nat}{h:Sl}{p:V8} (g:At9 w b 0 h p):w.cell? ⟨b,0,none⟩=some (.slice h.1 h.2.1 h.2.2)/\w.cell? ⟨b,1,none⟩=some (.int .i64 p.k)/\w.cell? ⟨b,2,none⟩=some (.slice p.b.1 p.b.2.1 p.b.2.2)/\w.cell? ⟨b,3,none⟩=some (.int .i64 p.bn) /\
  w.cell? ⟨b,4,none⟩=some (.slice p.s.1 p.s.2.1 p.s.2.2)/\w.cell? ⟨b,5,none⟩=some (.slice p.i.1 p.i.2.1 p.i.2.2)/\w.cell? ⟨b,6,none⟩=some (.slice p.f.1 p.f.2.1 p.f.2.2)/\w.cell? ⟨b,7,none⟩=some (.slice p.c.1 p.c.2.1 p.c.2.2)/\w.cell? ⟨b,8,none⟩=some (.slice p.x.1 p.x.2.1 p.x.2.2):=g
theorem arrays_no (k:Int) (hk:k≠6) (b:Value) (bn:Int) (s i f c x:Value) (w:World) :
  Calls Tryz.prog 184 #[vecV k b bn s i f c x] w fun e w'=>e= .returned vnil/\Below w.heap.size w w':=by
 have hk1:(k != 6)=true:=by simpa using hk
 clear hk
 go_enter Tryz.func184,Tryz.ntmps184
 go_wp2
 go_ret
 exact ⟨rfl,bel1 _ _⟩
def AslR (H:Nat->Prop) (w:World) (l:List PA) (e:Ending) (w':World):Prop:=∃ y:Sl,e= .returned (sv y)/\ASl H w' y l/\Below w.heap.size w w'
theorem arrays_yes {H:Nat->Prop}{w:World}{x:Sl}{l:List PA} (g:ASl H w x l) (hl:l.length<=1048576) (hH:∀ b,H b->b < w.heap.size) :
  Calls Tryz.prog 184 #[(boxesP x).v] w (AslR H w l):=by
 have HB:=Lib.hid (bel1 w (boxesP x).o)
 have HC:=Lib.hid (clA_any (g.step HB.out) hl (fun b e=>by have:=hH b e;simp;omega))
 have HH:=Lib.hid hH
 clear g hl hH
 go_enter Tryz.func184,Tryz.ntmps184
 go_wp2_with fail
 refine HC.out.mono ?_
 rintro e w1 ⟨u,rfl,ho,hb1⟩
 obtain ⟨y,rfl,hy⟩:=ho.asl (fun b e=>by have:=HH.out b e;simp;omega)
 have HY:=Lib.hid hy
 have HB1:=Lib.hid (bel_both HB.out hb1)
 clear ho hy hb1
 obtain ⟨yA,yn,yc⟩:=y
 dsimp only [sv]
 go_wp2
 go_ret
 exact ⟨(yA,yn,yc),rfl,HY.out,HB1.out⟩
def arrA:PA->List PA
 | .boxes _ l=>l
 | _=>[]
theorem av_kind {H:Nat->Prop}{w:World}{a:PA}{h:Sl}{p:V8} (g:AV H w a h p):p.k≠0/\(a.fill≠2->p.k≠6)/\(a.fill≠0->p.k≠1):=by
 cases a with
 | nums s l =>
  rcases g.nums with h | ⟨_,rfl⟩
  ·have hk:=h.num.now.kind
   exact ⟨by omega,fun _=>by omega,fun h=>absurd rfl h⟩
  ·exact ⟨show (1:Int)≠0 by decide,fun _=>show (1:Int)≠6 by decide,fun h=>absurd rfl h⟩
 | chars s l =>
  obtain ⟨c,rfl,_⟩:=g.chars
  exact ⟨show (5:Int)≠0 by decide,fun _=>show (5:Int)≠6 by decide,fun _=>show (5:Int)≠1 by decide⟩
 | boxes s l =>
  obtain ⟨x,rfl,_⟩:=g.asl
  exact ⟨show (6:Int)≠0 by decide,fun h=>absurd rfl h,fun _=>show (6:Int)≠1 by decide⟩
theorem av_arrays {H:Nat->Prop}{w:World}{a:PA}{h:Sl}{p:V8} (g:AV H w a h p) (hl:a.len<=1048576) (W:World) (hH:∀ b,H b->b < W.heap.size) (hb:Below w.heap.size w W) :
  Calls Tryz.prog 184 #[p.v] W (AslR H W (arrA a)):=by
 have hno:a.fill≠2->arrA a=[]->Calls Tryz.prog 184 #[p.v] W (AslR H W (arrA a)):=by
  intro h2 h0
  rw [h0]
  refine (arrays_no p.k ((av_kind g).2.1 h2) _ p.bn _ _ _ _ _ W).mono ?_
  rintro e w' ⟨rfl,hb2⟩
  exact ⟨nilS,rfl,ASl.nil _ _ _ _,hb2⟩
 cases a with
 | nums s l=>exact hno (show (0:Nat)≠2 by decide) rfl
 | chars s l=>exact hno (show (1:Nat)≠2 by decide) rfl
 | boxes s l =>
  obtain ⟨x,rfl,hx⟩:=g.asl
  exact arrays_yes (hx.step hb) hl hH
theorem aIndex_walk {H : Nat → Prop} (l : List PA) (x : Sl) (w : World) (q : Addr) (f : FuncId) (fn : Func) (hfn : Tryz.prog.funcs[f]? = some fn) (hnm : (fn.name == "runtime.NumGoroutine") = false) (co : Code) (hco : fn.body = some co)
  (hx:ASl H w x l) (hm2:l.length<=1048576)
  (hf:∀ i (hi:i < l.length) h p w1,Below w.heap.size w w1->AV H w1 l[i] h p->Calls Tryz.prog f #[arrV h p,.pointer (some q)] w1 fun e w'=>e= .returned (.bool false)/\Below w1.heap.size w1 w') :
  Calls Tryz.prog 224 #[sv x,.func (.func f) #[] #[.pointer (some q)]] w fun e w'=>e= .returned (.int .i64 (-1))/\Below w.heap.size w w':=by
 obtain ⟨A,m,cc⟩:=x
 have hm:m=l.length:=hx.1
 have HK:Hid (∀ i (hi:i < l.length),∃ b o h p,A=some ⟨b,o,none⟩/\¬ H b/\AV H w l[i] h p/\∀ w1,Lat H w w1->At9 w1 b (o+i*9) h p):=hx.at_
 have hmb:m<=1048576:=by omega
 have HM:=Lib.hid hm
 have HF:=Lib.hid hf
 have hcf:∀ (args:Array Value) (w:World),(callFunc f args).run Tryz.prog w= .ok (.enter f args) w:=by
  intro args w
  have h1 : fn.name ≠ "runtime.NumGoroutine" := by simpa using hnm
  simp [callFunc,hfn,h1,hco]
 clear hx hm2 hm hf hfn hnm hco
 dsimp only [sv]
 go_enter Tryz.func224,Tryz.ntmps224
 go_wp2
 go_loopw [5,8] (fun _ iv wr=>∃ k:Nat,k<=m/\iv= .int .i64 (k:Int)/\Below w.heap.size w wr) (fun _ iv _=>m - (intOf iv).toNat)
 case atStart=>exact ⟨0,Nat.zero_le _,rfl,Below.refl _ _⟩
 case round =>
  obtain ⟨k,hk,rfl,hbl⟩:=hrel
  have HBL:=Lib.hid hbl
  by_cases hlt:k < m
  ·have hik:k < l.length:=by have:=HM.out;omega
   obtain ⟨b,o,h',p',rfl,-,hav,hce⟩:=HK.out k hik
   obtain ⟨c0,c1,c2,c3,c4,c5,c6,c7,c8⟩:=hce wr (Lat.below hbl)
   dsimp only [sv] at c0 c1 c2 c3 c4 c5 c6 c7 c8
   have HFC:=Lib.hid (HF.out k hik h' p' wr hbl (AV.step hav hbl))
   clear hav hce hbl
   go_wp2_with fail
   refine HFC.out.mono ?_
   rintro e w2 ⟨rfl,hb⟩
   have HB2:=Lib.hid (HBL.out.trans (hb.mono HBL.out.size))
   clear hb c0 c1 c2 c3 c4 c5 c6 c7 c8
   go_wp2
   go_roundw
   case rel=>exact ⟨k+1,by omega,by go_num,HB2.out⟩
   case measure=>simp [intOf];omega
  ·clear hbl
   go_wp2
   go_ret
   exact ⟨rfl,HBL.out⟩
theorem aContains_walk {H : Nat → Prop} (l : List PA) (x : Sl) (w : World) (q : Addr) (f : FuncId) (fn : Func) (hfn : Tryz.prog.funcs[f]? = some fn) (hnm : (fn.name == "runtime.NumGoroutine") = false) (co : Code) (hco : fn.body = some co)
  (hx:ASl H w x l) (hm2:l.length<=1048576)
  (hf:∀ i (hi:i < l.length) h p w1,Below w.heap.size w w1->AV H w1 l[i] h p->Calls Tryz.prog f #[arrV h p,.pointer (some q)] w1 fun e w'=>e= .returned (.bool false)/\Below w1.heap.size w1 w') :
  Calls Tryz.prog 183 #[sv x,.func (.func f) #[] #[.pointer (some q)]] w fun e w'=>e= .returned (.bool false)/\Below w.heap.size w w':=by
 have HI:=Lib.hid (aIndex_walk l x w q f fn hfn hnm co hco hx hm2 hf)
 clear hx hm2 hf hfn hnm hco
 go_enter Tryz.func183,Tryz.ntmps183
 go_wp2_with fail
 refine HI.out.mono ?_
 rintro e w' ⟨rfl,hb⟩
 have HB:=Lib.hid hb
 clear hb
 go_wp2
 go_ret
 exact ⟨rfl,HB.out⟩
theorem av_packed {H:Nat->Prop}{w:World}{a:PA}{h:Sl}{p:V8} (g:AV H w a h p) (hl:a.len<=1000000) (W:World) (hb:Below w.heap.size w W) :
  ∃ (u:Sl) (n:Int) (t:Bool),Calls Tryz.prog 181 #[p.v] W (fun e w'=>e= .returned (.tuple #[.agg #[.slice u.1 u.2.1 u.2.2,.int .i64 n],.bool t])/\Below W.heap.size W w') /\
   (t=true->∀ W',Below W.heap.size W W'->Calls Tryz.prog 182 #[.agg #[.slice u.1 u.2.1 u.2.2,.int .i64 n]] W' (fun e w'=>e= .returned (.bool true)/\Below W'.heap.size W' w')):=by
 by_cases hk:p.k=1
 ·have hf:a.fill=0:=Classical.byContradiction fun h=>(av_kind g).2.2 h hk
  cases a with
  | chars s l=>cases hf
  | boxes s l=>cases hf
  | nums s l =>
   rcases g.nums with h | ⟨_,rfl⟩
   ·have hn:=(Keeps.lat h.num (Lat.below hb)).now
    obtain ⟨k,b,bn,s,i,f,c,x⟩:=p
    obtain rfl:k=1:=hk
    obtain ⟨rfl,L,hat,_⟩:=NumV.bits hn
    exact ⟨b,_,true,packed_yes b _ _ _ _ _ _ W,fun _ W' hb'=>btidy_any (hat.below hb').in hl⟩
   ·exact ⟨nilS,0,true,packed_yes nilS _ _ _ _ _ _ W,fun _ W' _=>btidy_zb W'⟩
 ·exact ⟨nilS,0,false,packed_no p.k hk _ p.bn _ _ _ _ _ W,fun h=>by cases h⟩
theorem good_walk:∀ (d:Nat) (H:Nat->Prop) (a:PA) (h:Sl) (p:V8) (w:World) (z:Int),z=(d:Int)->d<=100->(∀ b,H b->b < w.heap.size)->GoodA d a->SmA 1000000 a->AV H w a h p ->
  Calls Tryz.prog 131 #[arrV h p,.int .i64 z] w fun e w'=>e= .returned (.bool true)/\Below w.heap.size w w'
 | 0,_,a,_,_,_,_,_,_,_,hg,_,_=>absurd hg.sh.1 (Nat.lt_irrefl _)
 | d+1,H,a,h,p,w,z,hz,hd,hH,hg,hs,hav=>by
  have hlen:a.len<=1000000:=hs.len
  obtain ⟨w0,hw0⟩:∃ w0,w0=(w.alloc (arrO h p)).alloc (.cells #[.int .i64 z] 3):=⟨_,rfl⟩
  have hb0:Below w.heap.size w w0:=by rw [hw0];exact bel2 _ _ _
  have hsz:w0.heap.size=w.heap.size+2:=by rw [hw0];simp
  have h9:At9 w0 w.heap.size 0 h p:=by rw [hw0];exact (at9_new w h p).below (bel1 _ _)
  have hq:w0.cell? ⟨w.heap.size+1,0,none⟩=some (.int .i64 z):=by rw [hw0,World.cell?_alloc_at _ _ _ _ (by simp)];rfl
  have HPR:Hid (Calls Tryz.prog 150 #[sv h,.int .i64 1048576] w0 fun e w'=>e= .returned (.tuple #[.int .i64 (a.len:Int),.int .i64 0])/\w0=w'):=by
   have q:=product_any (sv h) a.shape 1048576 w0 (Keeps.lat hav.shape (Lat.below hb0)).now (by have:=hg.sh.2.1;omega)
   rw [prodE_ok hg.sh.2 (by omega)] at q
   exact q
  have HLN:=Lib.hid (fun W (hb:Below w0.heap.size w0 W)=>av_len hav W (bel_both hb0 hb))
  have HTI:=Lib.hid (fun W (hb:Below w0.heap.size w0 W)=>av_tight hav hlen W (bel_both hb0 hb))
  have HKI:=Lib.hid (fun W=>vkind_any p.k (.slice p.b.1 p.b.2.1 p.b.2.2) p.bn (.slice p.s.1 p.s.2.1 p.s.2.2) (.slice p.i.1 p.i.2.1 p.i.2.2) (.slice p.f.1 p.f.2.1 p.f.2.2) (.slice p.c.1 p.c.2.1 p.c.2.2) (.slice p.x.1 p.x.2.1 p.x.2.2) W)
  have hk0:(p.k==0)=false:=by have:=(av_kind hav).1;simpa using this
  have HPK:=Lib.hid (fun W (hb:Below w0.heap.size w0 W)=>av_packed hav hlen W (bel_both hb0 hb))
  have HAR:=Lib.hid (fun W (hb:Below w0.heap.size w0 W)=>av_arrays hav (by omega) W (fun b e=>by have:=hH b e;have:=hb.size;omega) (bel_both hb0 hb))
  have hz0:(z==0)=false:=by simp;omega
  have hcl:∀ i (hi:i < (arrA a).length) h' p' w1,Below w0.heap.size w0 w1->AV H w1 (arrA a)[i] h' p' ->
    Calls Tryz.prog 185 #[arrV h' p',.pointer (some ⟨w.heap.size+1,0,none⟩)] w1 fun e w'=>e= .returned (.bool false)/\Below w1.heap.size w1 w':=by
   intro i hi h' p' w1 hb hav'
   have hga:GoodA d (arrA a)[i]/\SmA 1000000 (arrA a)[i]:=by
    cases a with
    | nums s l=>simp [arrA] at hi
    | chars s l=>simp [arrA] at hi
    | boxes s l=>exact ⟨show GoodA d l[i] by simpa using hg.boxes i hi,hs.boxes i hi⟩
   generalize (arrA a)[i]=a' at hga hav'
   have hqd:w1.cell? ⟨w.heap.size+1,0,none⟩=some (.int .i64 z):=cell_up hb hq
   have hq2:(w1.alloc (arrO h' p')).cell? ⟨w.heap.size+1,0,none⟩=some (.int .i64 z):=cell_up (bel1 w1 (arrO h' p')) hqd
   have HC:=Lib.hid (good_walk d H a' h' p' (w1.alloc (arrO h' p')) (z - 1) (by omega) (by omega) (fun b e=>by have:=hH b e;have:=hb.size;simp;omega) hga.1 hga.2 (AV.step hav' (bel1 w1 (arrO h' p'))))
   have HB1:=Lib.hid (bel1 w1 (arrO h' p'))
   have hz1:0<=z - 1:=by omega
   have hz2:z<=101:=by omega
   clear hqd hb hav' hga hz hg hs hav h9 hq hw0 hb0 hsz HPR HLN HTI HKI HPK HAR hz0 hk0
   go_enter Tryz.func185,Tryz.ntmps185
   go_wp2_with fail
   (with_reducible refine HC.out.mono ?_)
   rintro e w2 ⟨rfl,hb⟩
   have HB2:=Lib.hid (bel_both HB1.out hb)
   clear hb hq2
   go_wp2
   go_ret
   exact ⟨rfl,HB2.out⟩
  have HCT:=Lib.hid (fun W y (hb:Below w0.heap.size w0 W) (hy:ASl H W y (arrA a))=>aContains_walk (arrA a) y W ⟨w.heap.size+1,0,none⟩ 185 _ Tryz.func185 (by kernel_rfl) _ rfl hy (by
   cases a with
   | nums s l=>simp [arrA]
   | chars s l=>simp [arrA]
   | boxes s l=>exact Nat.le_trans (show l.length<=1000000 from hlen) (by decide)) (fun i hi h' p' w1 hb1 hav'=>hcl i hi h' p' w1 (bel_both hb hb1) hav'))
  have H90:=Lib.hid h9
  have HW0:=Lib.hid hw0
  have HB0:=Lib.hid hb0
  have HQ:=Lib.hid hq
  generalize a.len=n at HPR HLN
  have hnn:((n:Int) != (n:Int))=false:=by simp
  clear hcl hlen hw0 hb0 hsz h9 hq hz hd hH hg hs hav
  go_enter Tryz.func131,Tryz.ntmps131
  go_wp2_with fail
  rw [<- HW0.out]
  refine HPR.out.mono ?_
  rintro e w1 ⟨rfl,rfl⟩
  obtain ⟨c0,c1,c2,c3,c4,c5,c6,c7,c8⟩:=H90.out.c
  go_wp2_with fail
  refine (HLN.out _ (Below.refl _ _)).mono ?_
  rintro e w1 ⟨rfl,hb⟩
  have H91:=Lib.hid (H90.out.below hb)
  have HB1:=Lib.hid hb
  clear hb c0 c1 c2 c3 c4 c5 c6 c7 c8
  obtain ⟨c0,c1,c2,c3,c4,c5,c6,c7,c8⟩:=H91.out.c
  go_wp2_with fail
  refine (HKI.out _).mono ?_
  rintro e w2 ⟨rfl,hb⟩
  have H92:=Lib.hid (H91.out.below hb)
  have HB2:=Lib.hid (bel_both HB1.out hb)
  clear hb c0 c1 c2 c3 c4 c5 c6 c7 c8
  obtain ⟨c0,c1,c2,c3,c4,c5,c6,c7,c8⟩:=H92.out.c
  go_wp2_with fail
  refine (HTI.out _ HB2.out).mono ?_
  rintro e w3 ⟨rfl,hb⟩
  have H93:=Lib.hid (H92.out.below hb)
  have HB3:=Lib.hid (bel_both HB2.out hb)
  clear hb c0 c1 c2 c3 c4 c5 c6 c7 c8
  obtain ⟨c0,c1,c2,c3,c4,c5,c6,c7,c8⟩:=H93.out.c
  have q3:=cell_up HB3.out HQ.out
  obtain ⟨u,m,t,hpk,htd⟩:=HPK.out _ HB3.out
  have HTD:=Lib.hid htd
  have HPC:=Lib.hid hpk
  clear htd hpk
  go_wp2_with fail
  refine HPC.out.mono ?_
  rintro e w4 ⟨rfl,hb⟩
  have HP0:=Lib.hid (hb)
  have HB4:=Lib.hid (bel_both HB3.out (bel_both hb (bel1 w4 (.cells #[.slice u.1 u.2.1 u.2.2,.int .i64 m] 52))))
  have H94:=Lib.hid (H93.out.below (bel_both hb (bel1 w4 (.cells #[.slice u.1 u.2.1 u.2.2,.int .i64 m] 52))))
  clear hb c0 c1 c2 c3 c4 c5 c6 c7 c8 q3
  have HTC:Hid (t=true->Calls Tryz.prog 182 #[.agg #[.slice u.1 u.2.1 u.2.2,.int .i64 m]] (w4.alloc (.cells #[.slice u.1 u.2.1 u.2.2,.int .i64 m] 52)) fun e w'=>e= .returned (.bool true)/\Below (w4.alloc (.cells #[.slice u.1 u.2.1 u.2.2,.int .i64 m] 52)).heap.size (w4.alloc (.cells #[.slice u.1 u.2.1 u.2.2,.int .i64 m] 52)) w'):=fun ht=>HTD.out ht _ (bel_both HP0.out (bel1 _ _))
  obtain ⟨c0,c1,c2,c3,c4,c5,c6,c7,c8⟩:=H94.out.c
  have q4:=cell_up HB4.out HQ.out
  cases t with
  | false =>
   go_wp2_with fail
   refine (HAR.out _ HB4.out).mono ?_
   rintro e w6 ⟨y,rfl,hy,hb⟩
   have HB6:=Lib.hid (bel_both HB4.out hb)
   have HCC:=Lib.hid (HCT.out w6 y HB6.out hy)
   clear hb hy c0 c1 c2 c3 c4 c5 c6 c7 c8 q4
   obtain ⟨yA,yn,yc⟩:=y
   go_wp2_with fail
   refine HCC.out.mono ?_
   rintro e w7 ⟨rfl,hb⟩
   have HB7:=Lib.hid (bel_both HB0.out (bel_both HB6.out hb))
   clear hb
   go_wp2
   go_ret
   exact ⟨rfl,HB7.out⟩
  | true =>
   have HT:=Lib.hid (HTC.out rfl)
   go_wp2_with fail
   refine HT.out.mono ?_
   rintro e w5 ⟨rfl,hb⟩
   have HB5:=Lib.hid (bel_both HB4.out hb)
   have H95:=Lib.hid (H94.out.below hb)
   clear hb c0 c1 c2 c3 c4 c5 c6 c7 c8 q4
   obtain ⟨c0,c1,c2,c3,c4,c5,c6,c7,c8⟩:=H95.out.c
   go_wp2_with fail
   refine (HAR.out _ HB5.out).mono ?_
   rintro e w6 ⟨y,rfl,hy,hb⟩
   have HB6:=Lib.hid (bel_both HB5.out hb)
   have HCC:=Lib.hid (HCT.out w6 y HB6.out hy)
   clear hb hy c0 c1 c2 c3 c4 c5 c6 c7 c8
   obtain ⟨yA,yn,yc⟩:=y
   go_wp2_with fail
   refine HCC.out.mono ?_
   rintro e w7 ⟨rfl,hb⟩
   have HB7:=Lib.hid (bel_both HB0.out (bel_both HB6.out hb))
   clear hb
   go_wp2
   go_ret
   exact ⟨rfl,HB7.out⟩
theorem vgood_any {H:Nat->Prop}{w:World}{a:PA}{h:Sl}{p:V8} (hav:AV H w a h p) (hH:∀ b,H b->b < w.heap.size) (hg:GoodA 40 a) (hs:SmA 1000000 a) :
  Calls Tryz.prog 91 #[arrV h p] w fun e w'=>e= .returned (.bool true)/\Below w.heap.size w w':=by
 have HB:=Lib.hid (bel1 w (arrO h p))
 have HC:=Lib.hid (good_walk 40 H a h p _ 40 rfl (by decide) (fun b e=>by have:=hH b e;simp;omega) hg hs (AV.step hav HB.out))
 clear hav hH hg hs
 go_enter Tryz.func91,Tryz.ntmps91
 go_wp2_with fail
 refine HC.out.mono ?_
 rintro e w1 ⟨rfl,hb⟩
 have HB1:=Lib.hid (bel_both HB.out hb)
 clear hb
 go_wp2
 go_ret
 exact ⟨rfl,HB1.out⟩
structure A2 (w W:World) (h1:Sl) (p:V8) (h2:Sl) (q:V8):Prop where
 one:At9 W w.heap.size 0 h1 p
 two:At9 W (w.heap.size+1) 0 h2 q
 bel:Below w.heap.size w W
theorem A2.step {w W W':World}{h1 h2:Sl}{p q:V8} (h:A2 w W h1 p h2 q) (hb:Below W.heap.size W W'):A2 w W' h1 p h2 q:=⟨h.one.below hb,h.two.below hb,bel_both h.bel hb⟩
theorem A2.dr {w W:World}{h1 h2:Sl}{p q:V8} (h:A2 w W h1 p h2 q):A2 w W.drew h1 p h2 q:=h.step (Below.refl _ W).drew
theorem A2.self {w W:World}{h1 h2:Sl}{p q:V8} (h:A2 w W h1 p h2 q):A2 w W h1 p h2 q:=h
theorem A2.new (w:World) (h1 h2:Sl) (p q:V8):A2 w ((w.alloc (arrO h1 p)).alloc (arrO h2 q)) h1 p h2 q:=by
 have h:=at9_new (w.alloc (arrO h1 p)) h2 q
 have e:(w.alloc (arrO h1 p)).heap.size=w.heap.size+1:=by simp
 rw [e] at h
 exact ⟨(at9_new w h1 p).below (bel1 _ _),h,bel2 w _ _⟩
theorem AV.shp {H:Nat->Prop}{w:World}{a:PA}{h:Sl}{p:V8} (g:AV H w a h p):ShV H w h a.shape:=by
 cases a <;> (rw [AV] at g;exact g.1)
def AvAt (H:Nat->Prop) (a:PA) (h:Sl) (p:V8) (W:World):Prop:=AV H W a h p
theorem AvAt.step {H:Nat->Prop}{a:PA}{h:Sl}{p:V8}{W W':World} (g:AvAt H a h p W) (hb:Below W.heap.size W W'):AvAt H a h p W':=AV.step g hb
theorem AvAt.dr {H:Nat->Prop}{a:PA}{h:Sl}{p:V8}{W:World} (g:AvAt H a h p W):AvAt H a h p W.drew:=g.step (Below.refl _ W).drew
theorem AvAt.al {H:Nat->Prop}{a:PA}{h:Sl}{p:V8}{W:World} (g:AvAt H a h p W) (o:Obj):AvAt H a h p (W.alloc o):=g.step (bel1 W o)
theorem AvAt.self {H:Nat->Prop}{a:PA}{h:Sl}{p:V8}{W:World} (g:AvAt H a h p W):AvAt H a h p W:=g
def ZB (Z:Nat) (W:World):Prop:=W.heap[Z]?=some zeroO
theorem ZB.new (W:World):ZB W.heap.size (W.alloc zeroO):=heap_alloc_new W _
theorem ZB.dr {Z:Nat}{W:World} (g:ZB Z W):ZB Z W.drew:=g
theorem ZB.step {Z:Nat}{W W':World} (g:ZB Z W) (hb:Below W.heap.size W W'):ZB Z W':=by
 unfold ZB at g ⊢
 rw [hb.block _ (lt_blk g)]
 exact g
theorem map_open {α:Type}{g:α->Value}{w:World}{v:Value}{s:List α} (h:Reads1 w v (s.map g)):∃ A n c,v= .slice A n c/\n=s.length /\
  ∀ i (hi:i < s.length),∃ b o,A=some ⟨b,o,none⟩/\w.cell? ⟨b,o+i,none⟩=some (g s[i]):=by
 rcases h with ⟨a,c,rfl,h0⟩ | ⟨b,o,n,c,rfl,hn,hc⟩
 ·have:s=[]:=by simpa using h0
  subst this
  exact ⟨a,0,c,rfl,rfl,fun i hi=>by simp at hi⟩
 ·rw [List.length_map] at hn
  exact ⟨_,n,c,rfl,hn,fun i hi=>⟨b,o,rfl,by rw [hc i (by simpa using hi)];simp⟩⟩
theorem in_any (k:Int) (b:Value) (bn:Int) (s i f c x:Value) (n j:Nat) (hj:j < n) (w:World)
  (hL:∀ W,Below w.heap.size w W->Calls Tryz.prog 48 #[vecV k b bn s i f c x] W fun e w2=>e= .returned (.int .i64 (n:Nat))/\Below W.heap.size W w2) :
  Calls Tryz.prog 187 #[vecV k b bn s i f c x,.int .i64 (j:Nat)] w fun e w'=>e= .returned (.bool true)/\Below w.heap.size w w':=by
 have HL:=Lib.hid (hL _ (bel1 w (.cells #[.int .i64 k,b,.int .i64 bn,s,i,f,c,x] 57)))
 have h0:(0:Int)<=(j:Int):=by omega
 have h1:(j:Int) < (n:Int):=by omega
 clear hL
 go_enter Tryz.func187,Tryz.ntmps187
 go_wp2_with fail
 refine HL.out.mono ?_
 rintro e w1 ⟨rfl,hb1⟩
 have HB:=Lib.hid (bel_both (bel1 w _) hb1)
 clear hb1
 go_wp2
 go_ret
 exact ⟨by simp,HB.out⟩
theorem vchar_any {H:Nat->Prop}{w:World}{s:List Nat}{l:List Int}{h:Sl}{p:V8} (g:AV H w (.chars s l) h p) (j:Nat) (hj:j < l.length) (W:World) (hb:Below w.heap.size w W) :
  Calls Tryz.prog 136 #[p.v,.int .i64 (j:Nat)] W fun e w'=>e= .returned (.int .i32 l[j])/\Below W.heap.size W w':=by
 have hlen:=fun W' (hb':Below W.heap.size W W')=>av_len g W' (bel_both hb hb')
 obtain ⟨⟨A,n,cc⟩,rfl,hr⟩:=g.chars
 obtain ⟨A',n',cc',hv,hn,hc⟩:=map_open (Keeps.lat hr (Lat.below hb)).now
 injection hv with e1 e2 e3
 subst e1;subst e2;subst e3
 dsimp only at hn hc
 obtain ⟨b,o,rfl,hce⟩:=hc j hj
 have HI:=Lib.hid (fun W' (hb':Below W.heap.size W W')=>in_any 5 vnil 0 vnil vnil vnil (.slice (some ⟨b,o,none⟩) n cc) vnil l.length j hj W' (fun W2 hb2=>hlen W2 (bel_both hb' hb2)))
 have hj0:(0:Int)<=(j:Int):=by omega
 have hj1:(j:Int) < (n:Int):=by omega
 have hj2:j < n:=by omega
 have HC:=Lib.hid hce
 generalize l[j]=y at HC
 clear g hlen hr hn hc hj hb hce
 go_enter Tryz.func136,Tryz.ntmps136
 go_wp2_with fail
 refine (HI.out _ (bel1 _ _)).mono ?_
 rintro e w1 ⟨rfl,hb1⟩
 have HB:=Lib.hid (bel_both (bel1 W _) hb1)
 obtain ⟨h0,h1,h2,h3,h4,h5,h6,h7⟩:=(boxed_new W 57 5 vnil 0 vnil vnil vnil (.slice (some ⟨b,o,none⟩) n cc) vnil).below hb1
 have hcell:=cell_up HB.out HC.out
 clear hb1
 go_wp2
 go_ret
 exact ⟨rfl,HB.out⟩
def BoxR (H:Nat->Prop) (w W:World) (a:PA) (e:Ending) (w':World):Prop:=∃ h p,e= .returned (arrV h p)/\AV H w a h p/\Below W.heap.size W w'
theorem vbox_any {H:Nat->Prop}{w:World}{s:List Nat}{l:List PA}{h:Sl}{p:V8} (g:AV H w (.boxes s l) h p) (j:Nat) (hj:j < l.length) (W:World) (hb:Below w.heap.size w W) :
  Calls Tryz.prog 137 #[p.v,.int .i64 (j:Nat)] W (BoxR H w W l[j]):=by
 have hlen:=fun W' (hb':Below W.heap.size W W')=>av_len g W' (bel_both hb hb')
 obtain ⟨A,n,cc,rfl,hn,hk⟩:=g.boxes
 obtain ⟨b,o,h',p',rfl,hnH,hav,hat⟩:=hk j hj
 have HI:=Lib.hid (fun W' (hb':Below W.heap.size W W')=>in_any 6 vnil 0 vnil vnil vnil vnil (.slice (some ⟨b,o,none⟩) n cc) l.length j hj W' (fun W2 hb2=>hlen W2 (bel_both hb' hb2)))
 have hj0:(0:Int)<=(j:Int):=by omega
 have hj1:(j:Int) < (n:Int):=by omega
 have hj2:j < n:=by omega
 have HA:=Lib.hid hav
 have HAT:=Lib.hid (fun w1 (hb1:Below W.heap.size W w1)=>hat w1 (Lat.below (bel_both hb hb1)))
 generalize l[j]=y at HA
 clear g hlen hn hk hj hb hav hat hnH
 go_enter Tryz.func137,Tryz.ntmps137
 go_wp2_with fail
 refine (HI.out _ (bel2 _ _ _)).mono ?_
 rintro e w1 ⟨rfl,hb1⟩
 have HB:=Lib.hid (bel_both (bel2 W _ _) hb1)
 obtain ⟨h0,h1,h2,h3,h4,h5,h6,h7⟩:=((boxed_new W 57 6 vnil 0 vnil vnil vnil vnil (.slice (some ⟨b,o,none⟩) n cc)).below (bel1 _ (.cells zeroL 59))).below hb1
 have hres:w1.heap[W.heap.size+1]?=some (.cells zeroL 59):=by
  have h:=block_up hb1
  simpa using h
 have HR:=Lib.hid hres
 obtain ⟨⟨y0,y1,y2,y3,y4,y5,y6,y7,y8⟩,yz⟩:=zero_block hres
 obtain ⟨c0,c1,c2,c3,c4,c5,c6,c7,c8⟩:=HAT.out _ HB.out
 dsimp only [sv] at c0 c1 c2 c3 c4 c5 c6 c7 c8
 clear hb1 hres
 go_wp2
 refine bodyPost_ret (v:=arrV h' p') ?_ rfl ⟨h',p',rfl,HA.out,below_set9 HB.out (Nat.le_succ _) _ _ _ _ _ _ _ _ _⟩
 exact ret_arr (fn:=Tryz.f137) (p:=4) rfl _ _ (W.heap.size+1) (by rfl) (set9_block HR.out _ _ _ _ _ _ _ _ _)
end Go.Proofs.YtbakjaliponbbaaGreatDoor
