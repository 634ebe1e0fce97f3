/- Plain arrays of tidy numbers, small sums: plain law. idiom.DoChain of the chapter's example; the chapter's awake. Printed by gen_trmm.py. The walk of of of .. Conditions: as each theorem says. -/
import Derived.Test.YtbakjaliponbbaaGreatDoorMg33
import Derived.Test.YtbakjaliponbbaaGreatDoorMg27
import Derived.Test.YtbakjaliponbbaaGreatDoorMg19
import Derived.Test.YtbakjaliponbbaaGreatDoorMg13
import Derived.Test.YtbakjaliponbbaaGreatDoorMg09
import Derived.Test.YtbakjaliponbbaaGreatDoorMg07
import Derived.Test.YtbakjaliponbbaaGreatDoorMg31
import Derived.Test.YtbakjaliponbbaaGreatDoorMg32
import Derived.Test.YtbakjaliponbbaaGreatDoorMg20
set_option maxRecDepth 100000
set_option maxHeartbeats 4000000
namespace Go.Proofs.YtbakjaliponbbaaGreatDoor
open Go Go.RowKit Go.Proofs Fl
abbrev noH:Nat->Prop:=fun _=>False
theorem noH_lt (w:World):∀ b,noH b->b < w.heap.size:=fun _ e=>e.elim
theorem okF_tf1 {b:Nat} (h:TF b):okF b=true:=by unfold okF;rw [doneP_tf h];rfl
theorem tidF_tf1 {b:Nat} (h:TF b):tidF b=b:=by unfold tidF;rw [doneP_tf h]
theorem ok_raw0 {s l:List Nat} (hs:OkSh s l.length) (hl:∀ x∈l,TF x):OkP 40 (rawP (.nums s l)):=by
 rw [rawP,OkP]
 refine ⟨by decide,.inl rfl,⟨s,rfl,by rw [List.length_map];exact hs⟩,okIs_of _ fun i hi=>?_⟩
 rw [List.getElem_map,OkI]
 have h:=hl _ (List.getElem_mem (by simpa using hi))
 exact ⟨rfl,fun _=>⟨okF_tf1 h,h.lt⟩,fun e=>absurd e (by decide)⟩
theorem cl_raw0 {s l:List Nat} (hl:∀ x∈l,TF x):clP (rawP (.nums s l))= .nums s l:=by
 rw [rawP,clP,toNat_of,if_pos rfl,List.map_map]
 congr 1
 refine (List.map_congr_left (g:=id) fun x hx=>?_).trans (List.map_id l)
 exact tidF_tf1 (hl x hx)
theorem cntIs_raw0 (l:List Nat):cntIs (l.map fun x=>RI.mk 0 x 0 [])=0:=by
 induction l with
 | nil=>rw [List.map_nil,cntIs]
 | cons x l ih=>rw [List.map_cons,cntIs,ih,cntI,cntPs]
theorem cnt_raw0 (s l:List Nat):cntP (rawP (.nums s l))=l.length+s.length+1:=by
 rw [rawP,cntP,cntIs_raw0]
 simp
theorem good_nums {s l:List Nat} (hs:OkSh s l.length) (hl:∀ x∈l,TF x):GoodA 40 (.nums s l):=by rw [GoodA];exact ⟨by decide,hs,hl⟩
theorem lawOf_nums {s l:List Nat} (hs:OkSh s l.length) (hl:∀ x∈l,TF x) (hc:l.length<=1000) (h x:Sl) (f:Int) (w:World) (hr:PV noH w (rawP (.nums s l)) h x f) :
  Calls Tryz.prog 17 #[plV h x f] w (AaR noH w (.nums s l)):=by
 have h1:=lawOf_any noH _ h x f w (noH_lt w) (ok_raw0 hs hl) (by rw [cnt_raw0];have:=hs.1;omega) hr
 rwa [cl_raw0 hl] at h1
theorem tf_small {n:Int} (h:n.natAbs<=1000):TF (fi n):=tf_fi ⟨by omega,by omega⟩
theorem sh0:OkSh [] 1:=⟨by decide,by decide,rfl⟩
theorem all1 {x:Nat} (hx:TF x):∀ z∈[x],TF z:=by
 intro z hz
 simp at hz
 rw [hz]
 exact hx
theorem sm_1 (x:Nat) (s:List Nat):SmA 1000000 (.nums s [x]):=by rw [SmA];simp
theorem f5_34:fi 5=4617315517961601024:=by decide+kernel
theorem f6_34:fi 6=4618441417868443648:=by decide+kernel
theorem f7_34:fi 7=4619567317775286272:=by decide+kernel
abbrev l567:List Nat:=[4617315517961601024,4618441417868443648,4619567317775286272]
abbrev a567:PA := .nums [3] l567
abbrev a7:PA := .nums [] [4619567317775286272]
theorem tf7_34:TF 4619567317775286272:=f7_34▸tf_small (by decide)
theorem all567:∀ z∈l567,TF z:=by
 intro z hz
 simp at hz
 rcases hz with rfl | rfl | rfl
 ·exact f5_34▸tf_small (by decide)
 ·exact f6_34▸tf_small (by decide)
 ·exact tf7_34
theorem good7:GoodA 40 a7:=good_nums sh0 (all1 tf7_34)
theorem part567:partA a567 2=a7:=by rw [partA,ixP_in (show 2 < l567.length by decide)];rfl
theorem sh3_34:OkSh [3] 3:=⟨by decide,by decide,rfl⟩
theorem reads_3 {W:World}{B:Nat}{e:TypeId}{x y z:Nat} (h:W.heap[B]?=some (.cells #[.float .f64 x,.float .f64 y,.float .f64 z] e)):Reads1 W (.slice (some ⟨B,0,none⟩) 3 3) ([x,y,z].map (Value.float .f64)):=by
 refine .inr ⟨B,0,3,3,rfl,rfl,fun j hj=>?_⟩
 have hj2:j < 3:=by simpa using hj
 rw [cell_of_row _ B (0+j) _ e (0,0) h]
 match j,hj2 with
 | 0,_=>rfl
 | 1,_=>rfl
 | 2,_=>rfl
structure Ch1 (w W:World) (h:Sl) (p:V8):Prop where
 ph:BoxT w W [.int .i64 1,.int .i32 8835,.int .i32 9021]
 arr:At9 W (w.heap.size+1) 0 h p
 res:W.heap[w.heap.size+2]?=some zeroO
theorem Ch1.bel {w W:World}{h:Sl}{p:V8} (g:Ch1 w W h p):Below w.heap.size w W:=g.ph.2.1
theorem Ch1.step {w W W':World}{h:Sl}{p:V8} (g:Ch1 w W h p) (hb:Below W.heap.size W W'):Ch1 w W' h p:=⟨g.ph.step hb,g.arr.below hb,by rw [hb.block _ (lt_blk g.res)];exact g.res⟩
theorem Ch1.new (w:World) (h:Sl) (p:V8):Ch1 w (((w.alloc (.cells #[.int .i64 1,.int .i32 8835,.int .i32 9021] 63)).alloc (arrO h p)).alloc zeroO) h p:=by
 have h1:=heap_alloc_new ((w.alloc (.cells #[.int .i64 1,.int .i32 8835,.int .i32 9021] 63)).alloc (arrO h p)) zeroO
 rw [show ((w.alloc (.cells #[.int .i64 1,.int .i32 8835,.int .i32 9021] 63)).alloc (arrO h p)).heap.size=w.heap.size+2 by simp] at h1
 have h2:=at9_new (w.alloc (.cells #[.int .i64 1,.int .i32 8835,.int .i32 9021] 63)) h p
 rw [show (w.alloc (.cells #[.int .i64 1,.int .i32 8835,.int .i32 9021] 63)).heap.size=w.heap.size+1 by simp] at h2
 exact ⟨((boxedT w [.int .i64 1,.int .i32 8835,.int .i32 9021] 63).step (bel1 _ _)).step (bel1 _ _),h2.below (bel1 _ _),h1⟩
def AtR (H:Nat->Prop) (w:World) (a:PA) (e:Ending) (w':World):Prop:=∃ h p,e= .returned (.tuple #[arrV h p,.bool true])/\AV H w' a h p/\Below w.heap.size w w'
theorem chain_567 {Ha:Nat->Prop}{h:Sl}{p:V8} (w:World) (g:AV Ha w a567 h p) (hHa:∀ b,Ha b->b < w.heap.size) :
  Calls Tryz.prog 47 #[.agg #[.int .i64 1,.int .i32 8835,.int .i32 9021],arrV h p,.int .i64 1,.int .i64 9] w (AtR Ha w a7):=by
 have HS0:=Lib.hid (Ch1.new w h p)
 have HL:Hid (∀ W,Below w.heap.size w W->Calls Tryz.prog 48 #[p.v] W fun e w'=>e= .returned (.int .i64 3)/\Below W.heap.size W w'):=fun W hb=>av_len g W hb
 have g2:AV (fun b=>Ha b\/b=w.heap.size+2) w a567 h p:=AV.sub (fun b hb e=>by rcases e with e | e;exact e;omega) g
 have HP:=Lib.hid (fun W (hb:Below w.heap.size w W) (hz:w.heap.size+2 < W.heap.size)=>epart_any W (AV.step g2 hb) (fun b e=>by rcases e with e | e;have:=hHa b e;have:=hb.size;omega;omega) 2 (by decide) (by decide))
 rw [part567] at HP
 have hv:(h.2.1:Int)=1:=by have e:h.2.1=1:=g.shape.len;omega
 clear g g2 hHa
 unfold AtR
 unfold AaR at HP
 go_enter Tryz.func47,Tryz.ntmps47
 obtain ⟨h0,h1,h2,h3,h4,h5,h6,h7,h8⟩:=HS0.out.arr.c
 obtain ⟨c0,c1,c2⟩:_/\_/\_:=⟨HS0.out.ph.1 0,HS0.out.ph.1 1,HS0.out.ph.1 2⟩
 go_wp2_with fail
 refine (HL.out _ HS0.out.bel).mono ?_
 rintro e w2 ⟨rfl,hb⟩
 have HS2:=Lib.hid (HS0.out.step hb)
 clear hb h0 h1 h2 h3 h4 h5 h6 h7 h8 c0 c1 c2 HS0
 obtain ⟨h0,h1,h2,h3,h4,h5,h6,h7,h8⟩:=HS2.out.arr.c
 obtain ⟨c0,c1,c2⟩:_/\_/\_:=⟨HS2.out.ph.1 0,HS2.out.ph.1 1,HS2.out.ph.1 2⟩
 go_wp2_with fail
 refine (HP.out _ HS2.out.bel (lt_blk HS2.out.res)).mono ?_
 rintro e w3 ⟨h',p',rfl,hav,hb⟩
 have HS3:=Lib.hid (HS2.out.step hb)
 have HAV:Hid (AV Ha (set9 w3 (w.heap.size+2) (sv h') (.int .i64 p'.k) (sv p'.b) (.int .i64 p'.bn) (sv p'.s) (sv p'.i) (sv p'.f) (sv p'.c) (sv p'.x)) a7 h' p'):=AV.sub (fun b _ e => .inl e) (AV.lat (Lat.set9 (G:=w.heap.size+2) (.inr rfl) _ _ _ _ _ _ _ _ _) hav)
 clear hav hb h0 h1 h2 h3 h4 h5 h6 h7 h8 c0 c1 c2 HS2
 obtain ⟨⟨y0,y1,y2,y3,y4,y5,y6,y7,y8⟩,yz⟩:=zero_block HS3.out.res
 go_wp2
 refine bodyPost_ret (v := .tuple #[arrV h' p',.bool true]) ?_ rfl ⟨h',p',rfl,HAV.out,below_set9 HS3.out.bel (by omega) _ _ _ _ _ _ _ _ _⟩
 exact ret_arr2 (fn:=Tryz.f47) (p:=8) (u:=9) rfl _ _ (w.heap.size+2) (by rfl) (set9_block HS3.out.res _ _ _ _ _ _ _ _ _)
theorem dochain_567 {Ha:Nat->Prop}{h:Sl}{p:V8} (w:World) (g:AV Ha w a567 h p) (hHa:∀ b,Ha b->b < w.heap.size) :
  Calls Tryz.prog 16 #[.agg #[.int .i64 1,.int .i32 8835,.int .i32 9021],arrV h p,.int .i64 1,.int .i64 9] w (AtR Ha w a7):=by
 have HS0:=Lib.hid (Ch1.new w h p)
 have g2:AV (fun b=>Ha b\/b=w.heap.size+2) w a567 h p:=AV.sub (fun b hb e=>by rcases e with e | e;exact e;omega) g
 have HCH:=Lib.hid (fun W (hb:Below w.heap.size w W) (hz:w.heap.size+2 < W.heap.size)=>chain_567 W (AV.step g2 hb) (fun b e=>by rcases e with e | e;have:=hHa b e;have:=hb.size;omega;omega))
 clear g g2 hHa
 unfold AtR at HCH ⊢
 go_enter Tryz.func16,Tryz.ntmps16
 obtain ⟨h0,h1,h2,h3,h4,h5,h6,h7,h8⟩:=HS0.out.arr.c
 obtain ⟨c0,c1,c2⟩:_/\_/\_:=⟨HS0.out.ph.1 0,HS0.out.ph.1 1,HS0.out.ph.1 2⟩
 go_wp2_with fail
 refine (HCH.out _ HS0.out.bel (lt_blk HS0.out.res)).mono ?_
 rintro e w2 ⟨h2,p2,rfl,hav,hb⟩
 have HS2:=Lib.hid ((HS0.out.step hb).step (bel1 w2 (arrO h2 p2)))
 have HAV:=Lib.hid (AV.step hav (bel1 w2 (arrO h2 p2)))
 have HBX:=Lib.hid (at9_new w2 h2 p2)
 have HLT:Hid (w.heap.size+2 < w2.heap.size):=lt_blk (HS0.out.step hb).res
 have HL:Hid (∀ W,Below w2.heap.size w2 W->Calls Tryz.prog 48 #[p2.v] W fun e w'=>e= .returned (.int .i64 1)/\Below W.heap.size W w'):=fun W hb=>av_len hav W hb
 clear hav hb h0 h1 h3 h4 h5 h6 h7 h8 c0 c1 c2 HS0 HCH
 obtain ⟨q0,q1,q2,q3,q4,q5,q6,q7,q8⟩:=HBX.out.c
 go_wp2_with fail
 refine (HL.out _ (bel1 w2 _)).mono ?_
 rintro e w3 ⟨rfl,hb⟩
 have HS3:=Lib.hid (HS2.out.step hb)
 have HBX3:=Lib.hid (HBX.out.below hb)
 have HAV3:=Lib.hid (AV.step HAV.out hb)
 clear hb q0 q1 q2 q3 q4 q5 q6 q7 q8 HBX HS2 HAV
 obtain ⟨q0,q1,q2,q3,q4,q5,q6,q7,q8⟩:=HBX3.out.c
 obtain ⟨⟨y0,y1,y2,y3,y4,y5,y6,y7,y8⟩,yz⟩:=zero_block HS3.out.res
 have HAV:Hid (AV Ha (set9 w3 (w.heap.size+2) (sv h2) (.int .i64 p2.k) (sv p2.b) (.int .i64 p2.bn) (sv p2.s) (sv p2.i) (sv p2.f) (sv p2.c) (sv p2.x)) a7 h2 p2):=AV.sub (fun b _ e => .inl e) (AV.lat (Lat.set9 (G:=w.heap.size+2) (.inr rfl) _ _ _ _ _ _ _ _ _) HAV3.out)
 go_wp2
 refine bodyPost_ret (v := .tuple #[arrV h2 p2,.bool true]) ?_ rfl ⟨h2,p2,rfl,HAV.out,below_set9 HS3.out.bel (by omega) _ _ _ _ _ _ _ _ _⟩
 exact ret_arr2 (fn:=Tryz.f16) (p:=8) (u:=9) rfl _ _ (w.heap.size+2) (by rfl) (set9_block HS3.out.res _ _ _ _ _ _ _ _ _)
theorem awake34_any (w:World):Calls Tryz.prog 14 #[] w fun e w'=>e= .returned (.bool true)/\Below w.heap.size w w':=by
 have HN1:=Lib.hid (rnums_any _ _ noH (w.alloc (.cells #[.float .f64 4617315517961601024,.float .f64 4618441417868443648,.float .f64 4619567317775286272] 96)) (noH_lt _) (reads_3 (heap_alloc_new w (.cells #[.float .f64 4617315517961601024,.float .f64 4618441417868443648,.float .f64 4619567317775286272] 96))) (by simp))
 have HB0:=Lib.hid (bel1 w (.cells #[.float .f64 4617315517961601024,.float .f64 4618441417868443648,.float .f64 4619567317775286272] 96))
 unfold PlR at HN1
 go_enter Tryz.func14,Tryz.ntmps14
 go_wp2_with fail
 refine HN1.out.mono ?_
 rintro e w1 ⟨h1,x1,rfl,hp1,hb⟩
 have HB1:=Lib.hid (bel_both HB0.out hb)
 have HP1:=Lib.hid hp1
 clear hb hp1 HN1 HB0
 go_wp2_with fail
 refine (lawOf_nums sh3_34 all567 (by decide) h1 x1 0 _ HP1.out).mono ?_
 rintro e w2 ⟨h2,p2,rfl,ha2,hb⟩
 have HB2:=Lib.hid (bel_both HB1.out hb)
 have HDC:=Lib.hid (dochain_567 w2 ha2 (noH_lt w2))
 unfold AtR at HDC
 clear hb ha2 HB1 HP1
 go_wp2_with fail
 refine HDC.out.mono ?_
 rintro e w3 ⟨h3,p3,rfl,hav3,hb⟩
 have HB3:=Lib.hid (bel_both (bel_both HB2.out hb) (bel1 w3 (arrO h3 p3)))
 have HA3:=Lib.hid (AV.step hav3 (bel1 w3 (arrO h3 p3)))
 have HV3:=Lib.hid (at9_new w3 h3 p3)
 obtain ⟨V,hV⟩:∃ V,V=w3.heap.size:=⟨_,rfl⟩
 obtain ⟨wa,hwa⟩:∃ wa,wa=w3.alloc (arrO h3 p3):=⟨_,rfl⟩
 have HWA:=Lib.hid hwa
 have HVV:=Lib.hid hV
 rw [<- hwa] at HB3 HV3 HA3
 rw [<- hV] at HV3
 clear hV hwa hb hav3 HDC HB2
 go_upto_region 2 with fail
 rw [<- HWA.out,<- HVV.out]
 have HS0:=Lib.hid (LdA.new HV3.out)
 have HNU:=Lib.hid (fun W=>rnum_any 4619567317775286272 noH W (noH_lt W))
 have HSH:=Lib.hid (fun W (hW:LdA wa V h3 p3 W) (h4 x4:Sl) (hp:PV noH W (rawP a7) h4 x4 0)=>shows34_ok (noH_lt W) good7 (sm_1 _ _) (AV.step HA3.out hW.bel) hp)
 have HCO:Hid (∀ W,Calls Tryz.prog 26 #[.int .i32 43] W fun e w'=>e= .returned (.int .i64 1)/\Below W.heap.size W w'):=fun W=>code_walk 43 W
 unfold PlR at HNU
 clear HA3 HV3
 have hs0:=HS0.out.dr
 have hs00:=HS0.out
 go_region_held3 (fun W=>(W.cell? ⟨V,0,none⟩=some (.slice h3.1 h3.2.1 h3.2.2)/\W.cell? ⟨V,1,none⟩=some (.int .i64 p3.k)/\W.cell? ⟨V,2,none⟩=some (.slice p3.b.1 p3.b.2.1 p3.b.2.2)/\W.cell? ⟨V,3,none⟩=some (.int .i64 p3.bn)/\W.cell? ⟨V,4,none⟩=some (.slice p3.s.1 p3.s.2.1 p3.s.2.2)/\W.cell? ⟨V,5,none⟩=some (.slice p3.i.1 p3.i.2.1 p3.i.2.2)/\W.cell? ⟨V,6,none⟩=some (.slice p3.f.1 p3.f.2.1 p3.f.2.2)/\W.cell? ⟨V,7,none⟩=some (.slice p3.c.1 p3.c.2.1 p3.c.2.2)/\W.cell? ⟨V,8,none⟩=some (.slice p3.x.1 p3.x.2.1 p3.x.2.2))/\LdA wa V h3 p3 W)
  (first | (with_reducible assumption) | (with_reducible (refine lda_s ?_);repeat (first | (with_reducible assumption) | (with_reducible refine LdA.dr ?_))))
  (first
   | (go_at_call 46;(with_reducible refine (HNU.out _).mono ?_);rintro e w4 ⟨h4,x4,rfl,hp4,hb4⟩;have hst4:LdA wa V h3 p3 w4:=LdA.step (by repeat (first | (with_reducible assumption) | (with_reducible refine LdA.dr ?_))) hb4;have HSC:=Lib.hid (HSH.out w4 hst4 h4 x4 hp4);clear hb4 hp4)
   | (go_at_call 45;(with_reducible refine HSC.out.mono ?_);rintro e w5 ⟨rfl,hb5⟩;have hst5:LdA wa V h3 p3 w5:=LdA.step hst4 hb5;clear hb5)
   | (go_at_call 26;(with_reducible refine (HCO.out _).mono ?_);rintro e w6 ⟨rfl,hb6⟩;have hst6:LdA wa V h3 p3 w6:=LdA.step (by repeat (first | (with_reducible assumption) | (with_reducible refine LdA.dr ?_))) hb6;clear hb6))
 all_goals
  go_wp2
  go_ret
  exact ⟨rfl,bel_both HB3.out hst6.bel⟩
theorem of34_walk (w0:World):∀ (N:Nat) (t:RTree) (v0 v1 v2 v3 v4 v5:Value) (w:World),sizeR t<=N->sizeR t<=1048576->RN w0 t [v0,v1,v2,v3,v4,v5]->Below w0.heap.size w0 w ->
  Calls Tryz.prog 29 #[.agg #[v0,v1,v2,v3,v4,v5]] w fun e w'=>OfTells w0 w t e w'/\Below w.heap.size w w'
 | 0,t,_,_,_,_,_,_,_,h,_,_,_=>by have:=sizeR_pos t;omega
 | N+1,.mk k nums text name c kids,v0,v1,v2,v3,v4,v5,w,hN,hM,hr,hb=>by
  obtain ⟨nv,tv,A,cc,m,hvs,hrn,hrt,hm,hkid⟩:=hr.open_
  simp only [List.cons.injEq,and_true] at hvs
  obtain ⟨rfl,rfl,rfl,rfl,rfl,rfl⟩:=hvs
  have HRN:=Lib.hid hrn;have HRT:=Lib.hid hrt
  obtain ⟨A1,c1,n1,rfl,hz1,hz2⟩:=hrn.opn
  clear hz1 hz2
  obtain ⟨A2,c2,n2,rfl,hz1,hz2⟩:=hrt.opn
  clear hz1 hz2
  rw [sizeR] at hN hM
  have hlen:=sizeRs_len kids
  have hm2:m<=1048576:=by omega
  have HK:=Lib.hid hkid
  have HM:=Lib.hid hm
  have HIH:Hid (∀ t v0 v1 v2 v3 v4 v5 w,sizeR t<=N->sizeR t<=1048576->RN w0 t [v0,v1,v2,v3,v4,v5]->Below w0.heap.size w0 w->Calls Tryz.prog 29 #[.agg #[v0,v1,v2,v3,v4,v5]] w fun e w'=>OfTells w0 w t e w'/\Below w.heap.size w w'):=of34_walk w0 N
  have HAT:Hid (∀ i (hi:i < kids.length),sizeR kids[i]<=sizeRs kids):=fun i hi=>sizeRs_at hi
  have HN2:Hid (1+sizeRs kids<=N+1/\1+sizeRs kids<=1048576):=by unfold Hid;omega
  have HBW:=Lib.hid hb
  have HST:=Lib.hid (OfT.start w0 w hb (.int .i64 k) (.slice A1 n1 c1) (.slice A2 n2 c2) (.string name) (.int .i32 c) (.slice A m cc) k c (.slice A1 n1 c1) (.slice A2 n2 c2) name kids)
  clear hkid hm hlen hN hM hr hrn hrt hb
  go_enter Tryz.func29,Tryz.ntmps29
  go_wp2
  generalize ((w.alloc (.cells #[.int .i64 k,.slice A1 n1 c1,.slice A2 n2 c2,.string name,.int .i32 c,.slice A m cc] 29)).alloc (.cells #[.int .i64 0,.int .i64 0,.slice none 0 0,.slice none 0 0,.string ⟨#[]⟩,.int .i32 0,.slice none 0 0] 31)).alloc (.cells #[.int .i64 k,.int .i64 0,.slice A1 n1 c1,.slice A2 n2 c2,.string name,.int .i32 c,.slice none 0 0] 31)=W at *
  go_loopw [4] (fun iv wr=>∃ (i:Nat) (kv:Value),i<=m/\iv= .int .i64 (i:Int)/\Hid (OfT w0 w [.int .i64 k,.slice A1 n1 c1,.slice A2 n2 c2,.string name,.int .i32 c,.slice A m cc] k c (.slice A1 n1 c1) (.slice A2 n2 c2) name kids i kv wr)) (fun iv _=>m - (intOf iv).toNat)
  case atStart=>exact ⟨0,_,Nat.zero_le _,rfl,HST.out⟩
  case round =>
   obtain ⟨i,kv,hi,rfl,hI⟩:=hrel
   clear HST
   have hkl:=hI.out.own.slice
   obtain ⟨av,cv,hkv⟩:=hkl
   have htl:(kids.take i).length=i:=by rw [List.length_take];have:=HM.out;omega
   rw [htl] at hkv
   subst hkv
   have HTL:=Lib.hid htl
   have HLT:Hid (∀ b,(Value.slice av i cv).ownBlock=some b->b < wr.drew.heap.size):=fun b hb=>by obtain ⟨_,_,_,how,_⟩:=hI.out.own;exact (World.ownsRow.lt how b hb).2
   clear htl
   have b5:wr.cell? ⟨w.heap.size,5,none⟩=some (.slice A m cc):=hI.out.bx 5
   by_cases him:i < m
   ·have hik:i < kids.length:=by have:=HM.out;omega
    obtain ⟨b,o,u0,u1,u2,u3,u4,u5,rfl,hr,hce⟩:=HK.out i hik
    have hbl:Below w0.heap.size w0 wr.drew:=(HBW.out.trans (hI.out.below.mono HBW.out.size)).drew
    have hId:OfT w0 w [.int .i64 k,.slice A1 n1 c1,.slice A2 n2 c2,.string name,.int .i32 c,.slice (some ⟨b,o,none⟩) m cc] k c (.slice A1 n1 c1) (.slice A2 n2 c2) name kids i (.slice av i cv) wr.drew:=hI.out.call (Below.refl _ wr).drew
    have HIC:=Lib.hid (HIH.out kids[i] u0 u1 u2 u3 u4 u5 wr.drew (by have:=HAT.out i hik;have:=HN2.out;omega) (by have:=HAT.out i hik;have:=HN2.out;omega) hr hbl)
    have HCE:=Lib.hid hce
    have HSS:Hid (∀ W,Below w0.heap.size w0 W->(∀ j,W.cell? ⟨w.heap.size,j,none⟩=[Value.int .i64 k,.slice A1 n1 c1,.slice A2 n2 c2,.string name,.int .i32 c,.slice (some ⟨b,o,none⟩) m cc][j]?)->(∃ x,W.cell? ⟨w.heap.size+2,6,none⟩=some x)->W.cell? ⟨w.heap.size+2,6,none⟩=some (gz (w.heap.size+2) W)/\W.cell? ⟨w.heap.size,5,none⟩=some (.slice (some ⟨b,o,none⟩) m cc)/\W.cell? ⟨b,o+i*6,none⟩=some u0/\W.cell? ⟨b,o+i*6+1,none⟩=some u1/\W.cell? ⟨b,o+i*6+2,none⟩=some u2/\W.cell? ⟨b,o+i*6+3,none⟩=some u3/\W.cell? ⟨b,o+i*6+4,none⟩=some u4/\W.cell? ⟨b,o+i*6+5,none⟩=some u5):=by
     intro W hbW h1 ⟨x,h2⟩
     obtain ⟨q0,q1,q2,q3,q4,q5⟩:=HCE.out W hbW
     exact ⟨by rw [gz_of h2];exact h2,h1 5,q0,q1,q2,q3,q4,q5⟩
    have hgz:gz (w.heap.size+2) wr.drew= .slice av i cv:=gz_of (hId.g 6)
    have hs1:=HSS.out _ hbl hId.bx ⟨_,hId.g 6⟩
    have HID:=Lib.hid hId
    have HBL:=Lib.hid hbl
    clear hr hce hId hbl
    go_wp2_with fail
    obtain ⟨s10,s11,s12,s13,s14,s15,s16,s17⟩:=hs1
    rw [hgz] at s10
    clear hgz
    go_region_law (first | (refine step_pushN (by rfl) _ _ (by rfl) (w.heap.size+3) (.slice av i cv) i vss.flatten (by rfl) (World.ownsRow.alloc HO2.out _) w2.heap.size [.int .i64 k',.int .i64 a',.slice B1 p1 q1,.slice B2 p2 q2,.string nm',.int .i32 c',.slice B3 p3 q3] (by rfl) (new7 w2 _) (by rfl) one7 (by omega) (by have:=HI2a.out.sz;omega) ?_;intro r cap n' w3 hn' hown hg hr;have hmid:=HI2.out.mid hg;have HI3:=Lib.hid (OfT.push hik HI2.out HID.out.sz HLT.out (by rfl) HT2.out HV1.out HV2.out HT3.out hn' hown hg hr);have hg3:=hmid.2.2.1;have hfz3:=hmid.2.2.2;clear hmid hown hg hr hn') | (go_simp;go_at_call 29;refine HIC.out.mono ?_;rintro e w2 ⟨⟨k',a',c',nm',B1,B2,B3,p1,q1,p2,q2,p3,q3,rfl,ht2⟩,hb2⟩;have HT2:=Lib.hid ht2;have HI2:=Lib.hid (HID.out.call hb2);have hb02:=HBL.out.trans (hb2.mono HBL.out.size);obtain ⟨s20,s21,s22,s23,s24,s25,s26,s27⟩:=HSS.out _ hb02 HI2.out.bx ⟨_,HI2.out.g 6⟩;have hba:=(Below.refl _ w2).alloc (Nat.le_refl _) (.cells #[.int .i64 k',.int .i64 a',.slice B1 p1 q1,.slice B2 p2 q2,.string nm',.int .i32 c',.slice B3 p3 q3] 31);have HI2a:=Lib.hid (HI2.out.call hba);obtain ⟨s30,s31,s32,s33,s34,s35,s36,s37⟩:=HSS.out _ (hb02.trans (hba.mono hb02.size)) HI2a.out.bx ⟨_,HI2a.out.g 6⟩;rw [gz_of (HI2.out.g 6)] at s20;rw [gz_of (HI2a.out.g 6)] at s30;clear ht2 hb2 hb02 hba;obtain ⟨vss,hv1,hv2,hown2,htn2⟩:=HI2.out.own;rw [HTL.out] at hown2;have HV1:=Lib.hid hv1;have HV2:=Lib.hid hv2;have HO2:=Lib.hid hown2;have HT3:=Lib.hid htn2;clear hv1 hv2 hown2 htn2))
    all_goals
     clear s10 s11 s12 s13 s14 s15 s16 s17 s20 s21 s22 s23 s24 s25 s26 s27 s30 s31 s32 s33 s34 s35 s36 s37 hg3 hfz3
     go_wp2_with fail
     go_roundw
     case rel=>exact ⟨i+1,_,by omega,by go_num,HI3.out⟩
     case measure=>simp [intOf];omega
   ·have him2:i=kids.length:=by have:=HM.out;omega
    have HI2:Hid (OfT w0 w [.int .i64 k,.slice A1 n1 c1,.slice A2 n2 c2,.string name,.int .i32 c,.slice A m cc] k c (.slice A1 n1 c1) (.slice A2 n2 c2) name kids kids.length (.slice av i cv) wr):=by unfold Hid;have:=hI.out;rw [him2] at this ⊢;exact this
    have g0:wr.cell? ⟨w.heap.size+2,0,none⟩=some (.int .i64 k):=hI.out.g 0
    have g1:wr.cell? ⟨w.heap.size+2,1,none⟩=some (.int .i64 0):=hI.out.g 1
    have g2:wr.cell? ⟨w.heap.size+2,2,none⟩=some (.slice A1 n1 c1):=hI.out.g 2
    have g3:wr.cell? ⟨w.heap.size+2,3,none⟩=some (.slice A2 n2 c2):=hI.out.g 3
    have g4:wr.cell? ⟨w.heap.size+2,4,none⟩=some (.string name):=hI.out.g 4
    have g5:wr.cell? ⟨w.heap.size+2,5,none⟩=some (.int .i32 c):=hI.out.g 5
    have g6:wr.cell? ⟨w.heap.size+2,6,none⟩=some (.slice av i cv):=hI.out.g 6
    obtain ⟨z0,r0⟩:=hI.out.r 0 (by omega);obtain ⟨z1,r1⟩:=hI.out.r 1 (by omega);obtain ⟨z2,r2⟩:=hI.out.r 2 (by omega);obtain ⟨z3,r3⟩:=hI.out.r 3 (by omega);obtain ⟨z4,r4⟩:=hI.out.r 4 (by omega);obtain ⟨z5,r5⟩:=hI.out.r 5 (by omega);obtain ⟨z6,r6⟩:=hI.out.r 6 (by omega)
    have hfr:=hI.out.fr
    have HR7:=Lib.hid hI.out.r
    clear him2
    go_wp2
    obtain ⟨q0,q1,q2,q3,q4,q5,q6⟩:=set7_cells wr (w.heap.size+1) (.int .i64 k) (.int .i64 0) (.slice A1 n1 c1) (.slice A2 n2 c2) (.string name) (.int .i32 c) (.slice av i cv) HR7.out
    unfold set7 at q0 q1 q2 q3 q4 q5 q6
    refine bodyPost_ret (v := .agg #[.int .i64 k,.int .i64 0,.slice A1 n1 c1,.slice A2 n2 c2,.string name,.int .i32 c,.slice av i cv]) (by simp [results,Tryz.results29,go_sem,q0,q1,q2,q3,q4,q5,q6]) rfl ⟨⟨k,0,c,name,A1,A2,av,n1,c1,n2,c2,i,cv,rfl,?_⟩,?_⟩
    ·exact (HI2.out.done HRN.out HRT.out _ _ _ _ _ _ _).1
    ·exact (HI2.out.done HRN.out HRT.out _ _ _ _ _ _ _).2
end Go.Proofs.YtbakjaliponbbaaGreatDoor
