/- The reference's quoted; its Text at the kinds of one part, at braces, and what it hands on; bare, slashed. Printed by .. Conditions: as each theorem says. -/
import Derived.Test.YtbakjaliponbbaaGreatDoorMg22
import Derived.Test.YtbakjaliponbbaaGreatDoorMg17
import Derived.Test.YtbakjaliponbbaaGreatDoorMg23
set_option maxRecDepth 100000
set_option maxHeartbeats 1600000
namespace Go.Proofs.YtbakjaliponbbaaGreatDoor
open Go Go.RowKit Go.Proofs Fl
theorem quoted_any (w0:World) (A:Option Addr) (n cc:Nat) (text:List Int) (hr:Runes w0 (.slice A n cc) text) (hn2:text.length<=1048576) :
  ∀ W,Below w0.heap.size w0 W->Calls Tryz.prog 82 #[.slice A n cc] W fun e w'=>∃ A n c,e= .returned (.slice A n c)/\RunQ (fun b=>W.heap.size<=b) w' A n (quoT text)/\Below W.heap.size W w':=by
 intro w hb
 obtain ⟨A',cc',n',he,hn,hcell⟩:=hr.opn
 simp only [Value.slice.injEq] at he
 obtain ⟨rfl,rfl,rfl⟩:=he
 have HC:=Lib.hid hcell
 have HN:=Lib.hid hn
 have hn3:n<=1048576:=by omega
 have HBW:=Lib.hid hb
 have HO0:=Lib.hid (ownR_one w 39)
 have HB0:=Lib.hid (bel1 w (.cells #[.int .i32 39] 21))
 have HQL:=Lib.hid (fun i=>quoA_len (text.take i))
 have HTL:Hid (∀ i,(text.take i).length<=1048576):=fun i=>by rw [List.length_take];omega
 clear hb hcell hn hr hn2
 go_enter Tryz.func82,Tryz.ntmps82
 go_wp2
 generalize w.alloc (.cells #[.int .i32 39] 21)=w00 at *
 go_loopw [3,4] (fun sv iv wr=>∃ (i:Nat),i<=n/\iv= .int .i64 (i:Int)/\Hid (OwnR wr w.heap.size sv (quoA (text.take i)))/\Hid (Below w.heap.size w wr)) (fun _ iv _=>n - (intOf iv).toNat)
 case atStart=>exact ⟨0,Nat.zero_le _,rfl,HO0.out,HB0.out⟩
 case round =>
  obtain ⟨i,hi,rfl,HO,HBR⟩:=hrel
  have hzr:w.heap.size<=wr.heap.size:=HBR.out.size
  have hql:(quoA (text.take i)).length<=4194304:=by have:=HQL.out i;have:=HTL.out i;omega
  by_cases him:i < n
  ·have hik:i < text.length:=by have:=HN.out;omega
   obtain ⟨b,o,rfl,hce⟩:=HC.out i hik
   have HCE:=Lib.hid hce
   have hce2:=hce _ (HBW.out.trans (HBR.out.mono HBW.out.size))
   have HE:Hid (quoA (text.take (i+1))=quoA (text.take i)++quoI (text.getD i 0)):=by
    unfold Hid;rw [<- quoA_snoc];congr 1;rw [List.take_add_one];simp [List.getD,hik]
   clear hce
   generalize text.getD i 0=x at *
   generalize quoA (text.take i)=s at *
   by_cases hx:x=39
   ·subst hx
    have HE2:Hid (quoA (text.take (i+1))=s++[39]++[39]):=by unfold Hid;rw [HE.out];simp [quoI]
    clear HE
    go_wp2_with (at_builtin;first
     | (refine wpList_app1 rfl (.tmp 12) (.tmp 17) rfl w.heap.size _ s (by rfl) HO.out 39 (by rfl) (by omega) hzr ?_;intro v2 w2 hv hbb _ _;have HO2:=Lib.hid hv;have HB2:=Lib.hid (hbb w HBR.out);have hz2:=HB2.out.size;have hce3:=HCE.out _ (HBW.out.trans (HB2.out.mono HBW.out.size));clear hv hbb)
     | (refine wpList_app1 rfl (.tmp 24) (.tmp 25) rfl w.heap.size _ (s++[39]) (by rfl) HO2.out 39 (by rfl) (by simp;omega) hz2 ?_;intro v3 w3 hv hbb _ _;have HO3:=Lib.hid hv;have HB3:=Lib.hid (hbb w HB2.out);clear hv hbb))
    go_roundw
    case rel=>exact ⟨i+1,by omega,by go_num,by unfold Hid;rw [HE2.out];exact HO3.out,HB3.out⟩
    case measure=>simp [intOf];omega
   ·have HE2:Hid (quoA (text.take (i+1))=s++[x]):=by unfold Hid;rw [HE.out];simp [quoI,hx]
    have hx2:(x==39)=false:=by simpa using hx
    clear HE hx
    go_wp2_with (at_builtin;(refine wpList_app1 rfl (.tmp 12) (.tmp 17) rfl w.heap.size _ s (by rfl) HO.out x (by rfl) (by omega) hzr ?_;intro v3 w3 hv hbb _ _;have HO3:=Lib.hid hv;have HB3:=Lib.hid (hbb w HBR.out);have hce3:=HCE.out _ (HBW.out.trans (HB3.out.mono HBW.out.size));clear hv hbb))
    go_roundw
    case rel=>exact ⟨i+1,by omega,by go_num,by unfold Hid;rw [HE2.out];exact HO3.out,HB3.out⟩
    case measure=>simp [intOf];omega
  ·have HE:Hid (text.take i=text):=by unfold Hid;rw [List.take_of_length_le (by have:=HN.out;omega)]
   have HQ:Hid (quoT text=quoA (text.take i)++[39]):=by unfold Hid;rw [HE.out];rfl
   clear HE
   generalize quoA (text.take i)=s at *
   go_wp2_with (at_builtin;(refine wpList_app1 rfl (.tmp 27) (.tmp 28) rfl w.heap.size _ s (by rfl) HO.out 39 (by rfl) (by omega) hzr ?_;intro v3 w3 hv hbb _ _;have HB3:=Lib.hid (hbb w HBR.out);obtain ⟨n3,hn3⟩:∃ n,n=(s++[39]).length:=⟨_,rfl⟩;obtain ⟨gg,ccc,hvv⟩:=hv.len;rw [<- hn3] at hvv;subst hvv;have HO3:=Lib.hid hv;clear hv hbb hn3))
   go_ret
   exact ⟨_,_,_,rfl,by rw [HQ.out];exact runQ_own HO3.out,HB3.out⟩
theorem RSt.out {w0 wa W w':World}{q b1:Nat}{vs:List Value}{s:List Int}{A:Option Addr}{n c:Nat} (h:RSt w0 q b1 vs wa W) (hr:RunQ (fun b=>W.heap.size<=b) w' A n s) (hk:Lq q W w') (hl:LoA w' q):RtQ q wa s (.returned (.slice A n c)) w' :=
 ⟨A,n,c,rfl,hr.imp fun b hb _=>by have:=h.lq.size;omega,h.lq.trans hk,hl⟩
theorem RSt.outB {w0 wa W w':World}{q b1:Nat}{vs:List Value}{s:List Int}{A:Option Addr}{n c:Nat} (h:RSt w0 q b1 vs wa W) (hr:RunQ (fun b=>W.heap.size<=b) w' A n s) (hk:Below W.heap.size W w'):RtQ q wa s (.returned (.slice A n c)) w':=h.out hr (.of hk) (h.lo.below hk)
theorem txt_4 (w0:World) (q:Nat) (_hq:w0.heap.size<=q) (nums:List Nat) (text:List Int) (name:ByteArray) (c:Int) (kids:List RTree) :
  TextP 40 w0 q (.mk 4 nums text name c kids) [9082]:=by
 intro v0 v1 v2 v3 v4 v5 W hr hb hL
 obtain ⟨nv,tv,A,cc,m,hvs,hrn,hrt,hm,hkid⟩:=hr.open_
 simp only [List.cons.injEq,and_true] at hvs
 obtain ⟨rfl,rfl,rfl,rfl,rfl,rfl⟩:=hvs
 obtain ⟨A1,c1,n1,rfl,-,-⟩:=hrn.opn
 obtain ⟨A2,c2,n2,rfl,-,-⟩:=hrt.opn
 have HX:=Lib.hid (RSt.start hb hL [.int .i64 4,.slice A1 n1 c1,.slice A2 n2 c2,.string name,.int .i32 c,.slice A m cc] 29)
 clear hr hb hL hrn hrt hkid hm
 go_enter Tryz.func40,Tryz.ntmps40
 obtain ⟨x0,x1,x2,x3,x4,x5⟩:=HX.out.c6
 go_wp2_with fail
 (with_reducible refine (sign_any _ _).mono ?_)
 rintro e w9 ⟨A9,n9,c9,rfl,hr9,hb9⟩
 have HF:=Lib.hid (HX.out.outB (c:=c9) hr9 hb9)
 clear hr9 hb9 x0 x1 x2 x3 x4 x5 HX
 go_wp2
 go_ret
 exact HF.out
theorem txt_5 (w0:World) (q:Nat) (_hq:w0.heap.size<=q) (nums:List Nat) (text:List Int) (name:ByteArray) (c:Int) (kids:List RTree) :
  TextP 40 w0 q (.mk 5 nums text name c kids) [9077]:=by
 intro v0 v1 v2 v3 v4 v5 W hr hb hL
 obtain ⟨nv,tv,A,cc,m,hvs,hrn,hrt,hm,hkid⟩:=hr.open_
 simp only [List.cons.injEq,and_true] at hvs
 obtain ⟨rfl,rfl,rfl,rfl,rfl,rfl⟩:=hvs
 obtain ⟨A1,c1,n1,rfl,-,-⟩:=hrn.opn
 obtain ⟨A2,c2,n2,rfl,-,-⟩:=hrt.opn
 have HX:=Lib.hid (RSt.start hb hL [.int .i64 5,.slice A1 n1 c1,.slice A2 n2 c2,.string name,.int .i32 c,.slice A m cc] 29)
 clear hr hb hL hrn hrt hkid hm
 go_enter Tryz.func40,Tryz.ntmps40
 obtain ⟨x0,x1,x2,x3,x4,x5⟩:=HX.out.c6
 go_wp2_with fail
 (with_reducible refine (sign_any _ _).mono ?_)
 rintro e w9 ⟨A9,n9,c9,rfl,hr9,hb9⟩
 have HF:=Lib.hid (HX.out.outB (c:=c9) hr9 hb9)
 clear hr9 hb9 x0 x1 x2 x3 x4 x5 HX
 go_wp2
 go_ret
 exact HF.out
theorem txt_6 (w0:World) (q:Nat) (_hq:w0.heap.size<=q) (nums:List Nat) (text:List Int) (name:ByteArray) (c:Int) (kids:List RTree) :
  TextP 40 w0 q (.mk 6 nums text name c kids) [9068]:=by
 intro v0 v1 v2 v3 v4 v5 W hr hb hL
 obtain ⟨nv,tv,A,cc,m,hvs,hrn,hrt,hm,hkid⟩:=hr.open_
 simp only [List.cons.injEq,and_true] at hvs
 obtain ⟨rfl,rfl,rfl,rfl,rfl,rfl⟩:=hvs
 obtain ⟨A1,c1,n1,rfl,-,-⟩:=hrn.opn
 obtain ⟨A2,c2,n2,rfl,-,-⟩:=hrt.opn
 have HX:=Lib.hid (RSt.start hb hL [.int .i64 6,.slice A1 n1 c1,.slice A2 n2 c2,.string name,.int .i32 c,.slice A m cc] 29)
 clear hr hb hL hrn hrt hkid hm
 go_enter Tryz.func40,Tryz.ntmps40
 obtain ⟨x0,x1,x2,x3,x4,x5⟩:=HX.out.c6
 go_wp2_with fail
 (with_reducible refine (sign_any _ _).mono ?_)
 rintro e w9 ⟨A9,n9,c9,rfl,hr9,hb9⟩
 have HF:=Lib.hid (HX.out.outB (c:=c9) hr9 hb9)
 clear hr9 hb9 x0 x1 x2 x3 x4 x5 HX
 go_wp2
 go_ret
 exact HF.out
theorem txt_13 (w0:World) (q:Nat) (_hq:w0.heap.size<=q) (nums:List Nat) (text:List Int) (name:ByteArray) (c:Int) (kids:List RTree) :
  TextP 40 w0 q (.mk 13 nums text name c kids) [c]:=by
 intro v0 v1 v2 v3 v4 v5 W hr hb hL
 obtain ⟨nv,tv,A,cc,m,hvs,hrn,hrt,hm,hkid⟩:=hr.open_
 simp only [List.cons.injEq,and_true] at hvs
 obtain ⟨rfl,rfl,rfl,rfl,rfl,rfl⟩:=hvs
 obtain ⟨A1,c1,n1,rfl,-,-⟩:=hrn.opn
 obtain ⟨A2,c2,n2,rfl,-,-⟩:=hrt.opn
 have HX:=Lib.hid (RSt.start hb hL [.int .i64 13,.slice A1 n1 c1,.slice A2 n2 c2,.string name,.int .i32 c,.slice A m cc] 29)
 clear hr hb hL hrn hrt hkid hm
 go_enter Tryz.func40,Tryz.ntmps40
 obtain ⟨x0,x1,x2,x3,x4,x5⟩:=HX.out.c6
 go_wp2_with fail
 (with_reducible refine (sign_any _ _).mono ?_)
 rintro e w9 ⟨A9,n9,c9,rfl,hr9,hb9⟩
 have HF:=Lib.hid (HX.out.outB (c:=c9) hr9 hb9)
 clear hr9 hb9 x0 x1 x2 x3 x4 x5 HX
 go_wp2
 go_ret
 exact HF.out
theorem txt_1 (w0:World) (q:Nat) (_hq:w0.heap.size<=q) (nums:List Nat) (text:List Int) (name:ByteArray) (c:Int) (kids:List RTree) (hf:nums.all isFin=true) (h0:0 < nums.length) (hx:∀ x∈nums,x < 18446744073709551616) (hl2:nums.length<=1048576) :
  TextP 40 w0 q (.mk 1 nums text name c kids) (numsT nums):=by
 intro v0 v1 v2 v3 v4 v5 W hr hb hL
 obtain ⟨nv,tv,A,cc,m,hvs,hrn,hrt,hm,hkid⟩:=hr.open_
 simp only [List.cons.injEq,and_true] at hvs
 obtain ⟨rfl,rfl,rfl,rfl,rfl,rfl⟩:=hvs
 obtain ⟨A1,c1,n1,rfl,-,-⟩:=hrn.opn
 obtain ⟨A2,c2,n2,rfl,-,-⟩:=hrt.opn
 have HX:=Lib.hid (RSt.start hb hL [.int .i64 1,.slice A1 n1 c1,.slice A2 n2 c2,.string name,.int .i32 c,.slice A m cc] 29)
 have HNC:Hid (∀ W,Below w0.heap.size w0 W->Calls Tryz.prog 81 #[.slice A1 n1 c1] W fun e w'=>e= .returned (.string (runesBytes (numsT nums)))/\Below W.heap.size W w'):=fun W hb=>rlnums_any (hrn.below hb) hx hf hl2
 have HRB:Hid (runesOf (runesBytes (numsT nums))=numsT nums):=runes_nums hx hf
 have HSZ:Hid ((runesBytes (numsT nums)).size<=70368744177664):=by
  have h1:=(numsT_len hx hf h0).2
  have h2:=runesBytes_size_le (numsT nums)
  unfold Hid;omega
 clear hr hb hL hrn hrt hkid hm hf h0 hx hl2
 generalize numsT nums=s at *
 generalize runesBytes s=S at *
 go_enter Tryz.func40,Tryz.ntmps40
 obtain ⟨x0,x1,x2,x3,x4,x5⟩:=HX.out.c6
 go_wp2_with fail
 (with_reducible refine (HNC.out _ HX.out.bel).mono ?_)
 rintro e w8 ⟨rfl,hb8⟩
 have HX8:=Lib.hid (HX.out.below hb8)
 obtain ⟨c9,w9,hcv,hr9,hb9,_⟩:=conv_str S w8 HSZ.out
 rw [HRB.out] at hr9 hcv
 have HF:=Lib.hid (HX8.out.outB (c:=c9) (runQ_at hr9 (Nat.le_refl _)) hb9)
 clear hr9 hb9 hb8 x0 x1 x2 x3 x4 x5
 generalize s.length=sn at *
 go_wp2
 go_ret
 exact HF.out
theorem txt_2 (w0:World) (q:Nat) (_hq:w0.heap.size<=q) (nums:List Nat) (text:List Int) (name:ByteArray) (c:Int) (kids:List RTree) (hl2:text.length<=1048576) :
  TextP 40 w0 q (.mk 2 nums text name c kids) (quoT text):=by
 intro v0 v1 v2 v3 v4 v5 W hr hb hL
 obtain ⟨nv,tv,A,cc,m,hvs,hrn,hrt,hm,hkid⟩:=hr.open_
 simp only [List.cons.injEq,and_true] at hvs
 obtain ⟨rfl,rfl,rfl,rfl,rfl,rfl⟩:=hvs
 obtain ⟨A1,c1,n1,rfl,-,-⟩:=hrn.opn
 obtain ⟨A2,c2,n2,rfl,-,-⟩:=hrt.opn
 have HX:=Lib.hid (RSt.start hb hL [.int .i64 2,.slice A1 n1 c1,.slice A2 n2 c2,.string name,.int .i32 c,.slice A m cc] 29)
 have HNC:=Lib.hid (quoted_any w0 A2 n2 c2 text (runes_of hrt) hl2)
 clear hr hb hL hrn hrt hkid hm hl2
 generalize quoT text=s at *
 go_enter Tryz.func40,Tryz.ntmps40
 obtain ⟨x0,x1,x2,x3,x4,x5⟩:=HX.out.c6
 go_wp2_with fail
 (with_reducible refine (HNC.out _ HX.out.bel).mono ?_)
 rintro e w9 ⟨A9,n9,c9,rfl,hr9,hb9⟩
 have HF:=Lib.hid (HX.out.outB (c:=c9) hr9 hb9)
 clear hr9 hb9 x0 x1 x2 x3 x4 x5 HX
 go_wp2
 go_ret
 exact HF.out
theorem txt_name (k:Int) (hk:k=3\/k=14) (w0:World) (q:Nat) (_hq:w0.heap.size<=q) (nums:List Nat) (text:List Int) (name:ByteArray) (c:Int) (kids:List RTree) (hz:name.size<=70368744177664) :
  TextP 40 w0 q (.mk k nums text name c kids) (runesOf name):=by
 intro v0 v1 v2 v3 v4 v5 W hr hb hL
 obtain ⟨nv,tv,A,cc,m,hvs,hrn,hrt,hm,hkid⟩:=hr.open_
 simp only [List.cons.injEq,and_true] at hvs
 obtain ⟨rfl,rfl,rfl,rfl,rfl,rfl⟩:=hvs
 obtain ⟨A1,c1,n1,rfl,-,-⟩:=hrn.opn
 obtain ⟨A2,c2,n2,rfl,-,-⟩:=hrt.opn
 have hx:=RSt.start hb hL [.int .i64 k,.slice A1 n1 c1,.slice A2 n2 c2,.string name,.int .i32 c,.slice A m cc] 29
 obtain ⟨W0,hW0⟩:∃ W0,W0=W.alloc (.cells #[.int .i64 k,.slice A1 n1 c1,.slice A2 n2 c2,.string name,.int .i32 c,.slice A m cc] 29):=⟨_,rfl⟩
 have HW0:=Lib.hid hW0
 have HX:Hid (RSt w0 q W.heap.size [.int .i64 k,.slice A1 n1 c1,.slice A2 n2 c2,.string name,.int .i32 c,.slice A m cc] W W0):=by unfold Hid;rw [hW0];exact hx
 obtain ⟨c9,w9,hcv,hr9,hb9,_⟩:=conv_str name W0 hz
 have HF:=Lib.hid (HX.out.outB (c:=c9) (runQ_at hr9 (Nat.le_refl _)) hb9)
 clear hr hb hL hrn hrt hkid hm hx hW0 hr9 hb9 hz
 generalize runesOf name=s at *
 generalize s.length=sn at *
 obtain ⟨x0,x1,x2,x3,x4,x5⟩:=HX.out.c6
 rcases hk with rfl | rfl
 all_goals
  go_enter Tryz.func40,Tryz.ntmps40
  go_upto_region 1 with fail
  rw [<- HW0.out]
  go_wp2
  go_ret
  exact HF.out
theorem txt_15 (w0:World) (q:Nat) (_hq:w0.heap.size<=q) (nums:List Nat) (text:List Int) (name:ByteArray) (c:Int) (kids:List RTree) (tx:RTree->List Int) (hm2:kids.length<=1048576) (H:∀ i (hi:i < kids.length),TextP 40 w0 q kids[i] (tx kids[i])) (hl:(joinP [123] (joinP (accT tx 8900 kids kids.length) [125])).length<=1099511627000) :
  TextP 40 w0 q (.mk 15 nums text name c kids) (joinP [123] (joinP (accT tx 8900 kids kids.length) [125])):=by
 intro v0 v1 v2 v3 v4 v5 W hr hb hL
 obtain ⟨nv,tv,A,cc,m,hvs,hrn,hrt,hm,hkid⟩:=hr.open_
 simp only [List.cons.injEq,and_true] at hvs
 obtain ⟨rfl,rfl,rfl,rfl,rfl,rfl⟩:=hvs
 obtain ⟨A1,c1,n1,rfl,-,-⟩:=hrn.opn
 obtain ⟨A2,c2,n2,rfl,-,-⟩:=hrt.opn
 have HX:=Lib.hid (RSt.start hb hL [.int .i64 15,.slice A1 n1 c1,.slice A2 n2 c2,.string name,.int .i32 c,.slice A m cc] 29)
 have HNC:=Lib.hid (rlist_any w0 q _hq tx 123 8900 125 kids A m cc hm (by omega) hkid H hl)
 clear hr hb hL hrn hrt hkid hm hm2 H hl
 generalize joinP [123] (joinP (accT tx 8900 kids kids.length) [125])=s at *
 go_enter Tryz.func40,Tryz.ntmps40
 obtain ⟨x0,x1,x2,x3,x4,x5⟩:=HX.out.c6
 go_wp2_with fail
 (with_reducible refine (HNC.out _ HX.out.bel HX.out.lo).mono ?_)
 rintro e w9 ⟨A9,n9,c9,rfl,hr9,hq9,hl9⟩
 have HF:=Lib.hid (HX.out.out (c:=c9) hr9 hq9 hl9)
 clear hr9 hq9 hl9 x0 x1 x2 x3 x4 x5 HX
 go_wp2
 go_ret
 exact HF.out
theorem txt_rest (k:Int) (hk:k=16\/k=17\/k=18\/k=19\/k=20\/k=21) (w0:World) (q:Nat) (_hq:w0.heap.size<=q) (nums:List Nat) (text:List Int) (name:ByteArray) (c:Int) (kids:List RTree) (s:List Int) (H:Hid (TextP 87 w0 q (.mk k nums text name c kids) s)) :
  TextP 40 w0 q (.mk k nums text name c kids) s:=by
 intro v0 v1 v2 v3 v4 v5 W hr hb hL
 have HT:=Lib.hid (fun W hb hL=>H.out _ _ _ _ _ _ W hr hb hL)
 obtain ⟨nv,tv,A,cc,m,hvs,hrn,hrt,hm,hkid⟩:=hr.open_
 simp only [List.cons.injEq,and_true] at hvs
 obtain ⟨rfl,rfl,rfl,rfl,rfl,rfl⟩:=hvs
 obtain ⟨A1,c1,n1,rfl,-,-⟩:=hrn.opn
 obtain ⟨A2,c2,n2,rfl,-,-⟩:=hrt.opn
 have HX:=Lib.hid (RSt.start hb hL [.int .i64 k,.slice A1 n1 c1,.slice A2 n2 c2,.string name,.int .i32 c,.slice A m cc] 29)
 clear hr hb hL hrn hrt hkid hm H
 rcases hk with rfl | rfl | rfl | rfl | rfl | rfl
 all_goals
  go_enter Tryz.func40,Tryz.ntmps40
  obtain ⟨x0,x1,x2,x3,x4,x5⟩:=HX.out.c6
  go_wp2_with fail
  (with_reducible refine (HT.out _ HX.out.bel HX.out.lo).mono ?_)
  rintro e w9 ⟨A9,n9,c9,rfl,hr9,hq9,hl9⟩
  have HF:=Lib.hid (HX.out.out (c:=c9) hr9 hq9 hl9)
  clear hr9 hq9 hl9 x0 x1 x2 x3 x4 x5 HX
  go_wp2
  go_ret
  exact HF.out
theorem rest_21 (w0:World) (q:Nat) (_hq:w0.heap.size<=q) (nums:List Nat) (text:List Int) (name:ByteArray) (c:Int) (kids:List RTree) :
  TextP 87 w0 q (.mk 21 nums text name c kids) []:=by
 intro v0 v1 v2 v3 v4 v5 W hr hb hL
 obtain ⟨nv,tv,A,cc,m,hvs,hrn,hrt,hm,hkid⟩:=hr.open_
 simp only [List.cons.injEq,and_true] at hvs
 obtain ⟨rfl,rfl,rfl,rfl,rfl,rfl⟩:=hvs
 obtain ⟨A1,c1,n1,rfl,-,-⟩:=hrn.opn
 obtain ⟨A2,c2,n2,rfl,-,-⟩:=hrt.opn
 have HX:=Lib.hid (RSt.start hb hL [.int .i64 21,.slice A1 n1 c1,.slice A2 n2 c2,.string name,.int .i32 c,.slice A m cc] 29)
 have HF:=Lib.hid (HX.out.outB (c:=0) (runQ_nil _ _ none) (Below.refl _ _))
 clear hr hb hL hrn hrt hkid hm
 go_enter Tryz.func87,Tryz.ntmps87
 obtain ⟨x0,x1,x2,x3,x4,x5⟩:=HX.out.c6
 go_wp2
 go_ret
 exact HF.out
def RTell (f:FuncId) (w0:World) (t:RTree) (b:Bool):Prop:=∀ v0 v1 v2 v3 v4 v5 W,RN w0 t [v0,v1,v2,v3,v4,v5]->Below w0.heap.size w0 W->Calls Tryz.prog f #[.agg #[v0,v1,v2,v3,v4,v5]] W fun e w'=>e= .returned (.bool b)/\Below W.heap.size W w'
theorem rbare_any (w0:World) (t:RTree):RTell 84 w0 t (bareB (kindR t)):=by
 rintro v0 v1 v2 v3 v4 v5 W hr hb
 obtain ⟨B1,m1,d1,B2,m2,d2,B3,m3,d3,rfl,rfl,rfl,rfl,rfl,rfl,-,-⟩:=hr.vals
 have HB:Hid (Below W.heap.size W (W.alloc (.cells #[.int .i64 (kindR t),.slice B1 m1 d1,.slice B2 m2 d2,.string (nameR t),.int .i32 (charR t),.slice B3 m3 d3] 29))):=bel1 W _
 obtain ⟨R,hR⟩:∃ R,R=bareB (kindR t):=⟨_,rfl⟩
 have HR:Hid (R=bareB (kindR t)):=hR
 rw [<- hR]
 clear hr hb hR
 generalize kindR t=k at *
 have hcs:k < 2\/(2<=k/\k<=6)\/k=7\/k=8\/8 < k:=by omega
 rcases hcs with h | ⟨h1,h2⟩ | rfl | rfl | h
 ·have e:R=false:=by rw [HR.out];unfold bareB;simp;omega
  have e2:(k==8)=false:=by simp;omega
  subst e
  clear HR
  go_enter Tryz.func84,Tryz.ntmps84
  go_wp2
  go_ret
  exact ⟨rfl,HB.out⟩
 ·have e:R=true:=by rw [HR.out];unfold bareB;simp;omega
  subst e
  clear HR
  go_enter Tryz.func84,Tryz.ntmps84
  go_wp2
  go_ret
  exact ⟨rfl,HB.out⟩
 ·have e:R=false:=by rw [HR.out];rfl
  subst e
  clear HR
  go_enter Tryz.func84,Tryz.ntmps84
  go_wp2
  go_ret
  exact ⟨rfl,HB.out⟩
 ·have e:R=true:=by rw [HR.out];rfl
  subst e
  clear HR
  go_enter Tryz.func84,Tryz.ntmps84
  go_wp2
  go_ret
  exact ⟨rfl,HB.out⟩
 ·have e:R=false:=by rw [HR.out];unfold bareB;simp;omega
  have e2:(k==8)=false:=by simp;omega
  have h6:¬ k<=6:=by omega
  have h2:2<=k:=by omega
  subst e
  clear HR
  go_enter Tryz.func84,Tryz.ntmps84
  go_wp2
  go_ret
  exact ⟨rfl,HB.out⟩
theorem rslashed_13 (w0:World) (nums:List Nat) (text:List Int) (name:ByteArray) (c:Int) (kids:List RTree):RTell 86 w0 (.mk 13 nums text name c kids) (slashB c):=by
 intro v0 v1 v2 v3 v4 v5 W hr hb
 obtain ⟨nv,tv,A,cc,m,hvs,hrn,hrt,hm,hkid⟩:=hr.open_
 simp only [List.cons.injEq,and_true] at hvs
 obtain ⟨rfl,rfl,rfl,rfl,rfl,rfl⟩:=hvs
 obtain ⟨A1,c1,n1,rfl,-,-⟩:=hrn.opn
 obtain ⟨A2,c2,n2,rfl,-,-⟩:=hrt.opn
 have HS:=Lib.hid (rslash_walk c)
 have HB:Hid (Below W.heap.size W (W.alloc (.cells #[.int .i64 13,.slice A1 n1 c1,.slice A2 n2 c2,.string name,.int .i32 c,.slice A m cc] 29))):=bel1 W _
 clear hr hb hrn hrt hkid hm
 generalize slashB c=R at *
 cases R
 all_goals
  go_enter Tryz.func86,Tryz.ntmps86
  go_wp2_with fail
  (with_reducible refine (HS.out _).mono ?_)
  rintro e w1 ⟨rfl,rfl⟩
  go_wp2
  go_ret
  exact ⟨rfl,HB.out⟩
theorem rslashed_no (w0:World) (k:Int) (h13:k≠13) (h16:k≠16) (h17:k≠17) (nums:List Nat) (text:List Int) (name:ByteArray) (c:Int) (kids:List RTree):RTell 86 w0 (.mk k nums text name c kids) false:=by
 intro v0 v1 v2 v3 v4 v5 W hr hb
 obtain ⟨nv,tv,A,cc,m,hvs,hrn,hrt,hm,hkid⟩:=hr.open_
 simp only [List.cons.injEq,and_true] at hvs
 obtain ⟨rfl,rfl,rfl,rfl,rfl,rfl⟩:=hvs
 obtain ⟨A1,c1,n1,rfl,-,-⟩:=hrn.opn
 obtain ⟨A2,c2,n2,rfl,-,-⟩:=hrt.opn
 have HB:Hid (Below W.heap.size W (W.alloc (.cells #[.int .i64 k,.slice A1 n1 c1,.slice A2 n2 c2,.string name,.int .i32 c,.slice A m cc] 29))):=bel1 W _
 have e13:(k==13)=false:=by simpa using h13
 have e16:(k==16)=false:=by simpa using h16
 have e17:(k==17)=false:=by simpa using h17
 clear hr hb hrn hrt hkid hm
 go_enter Tryz.func86,Tryz.ntmps86
 go_wp2
 go_ret
 exact ⟨rfl,HB.out⟩
theorem rslashed_16 (w0:World) (k:Int) (hk16:k=16\/k=17) (nums:List Nat) (text:List Int) (name:ByteArray) (c:Int) (t0:RTree) (ts:List RTree) (R:Bool) (H0:Hid (RTell 86 w0 t0 R)):RTell 86 w0 (.mk k nums text name c (t0::ts)) R:=by
 intro v0 v1 v2 v3 v4 v5 W hr hb
 obtain ⟨nv,tv,A,cc,m,hvs,hrn,hrt,hm,hkid⟩:=hr.open_
 simp only [List.cons.injEq,and_true] at hvs
 obtain ⟨rfl,rfl,rfl,rfl,rfl,rfl⟩:=hvs
 obtain ⟨A1,c1,n1,rfl,-,-⟩:=hrn.opn
 obtain ⟨A2,c2,n2,rfl,-,-⟩:=hrt.opn
 obtain ⟨b,o,u0,u1,u2,u3,u4,u5,rfl,hr0,hc0⟩:=KidR.kid hkid 0 (by simp)
 have hm1:0 < m:=by rw [hm];simp
 have HB:Hid (Below W.heap.size W (W.alloc (.cells #[.int .i64 k,.slice A1 n1 c1,.slice A2 n2 c2,.string name,.int .i32 c,.slice (some ⟨b,o,none⟩) m cc] 29))):=bel1 W _
 have hbW:=hb.trans (HB.out.mono hb.size)
 have HC:=Lib.hid (H0.out _ _ _ _ _ _ _ hr0 hbW)
 obtain ⟨y0,y1,y2,y3,y4,y5⟩:=hc0 _ hbW
 simp only [Nat.zero_mul,Nat.add_zero] at y0 y1 y2 y3 y4 y5
 clear hr hb hrn hrt hkid hm hr0 hc0 hbW H0
 rcases hk16 with rfl | rfl
 all_goals
  cases R
  all_goals
   go_enter Tryz.func86,Tryz.ntmps86
   go_wp2_with fail
   (with_reducible refine HC.out.mono ?_)
   rintro e w1 ⟨rfl,hb⟩
   have HB2:=Lib.hid (HB.out.trans (hb.mono HB.out.size))
   clear hb y0 y1 y2 y3 y4 y5
   go_wp2
   go_ret
   exact ⟨rfl,HB2.out⟩
end Go.Proofs.YtbakjaliponbbaaGreatDoor
