/- The walk of idiom.DoChain. Printed by gen_ich_tail.py. What the program's chain tells is what the reference's chain tells (plain law). The small functions of .. Conditions: as each theorem says. -/
import Derived.Test.YtbakjaliponbbaaGreatDoorMg36
import Derived.Test.YtbakjaliponbbaaGreatDoorMg32
import Derived.Test.YtbakjaliponbbaaGreatDoorMg34
import Derived.Test.YtbakjaliponbbaaGreatDoorMg11
import Derived.Test.YtbakjaliponbbaaGreatDoorMg16
import Derived.Test.YtbakjaliponbbaaGreatDoorMg10
import Derived.Test.YtbakjaliponbbaaGreatDoorMg13
import Derived.Test.YtbakjaliponbbaaGreatDoorMg02
import Derived.Test.YtbakjaliponbbaaGreatDoorMg22
set_option maxRecDepth 100000
set_option maxHeartbeats 4000000
namespace Go.Proofs.YtbakjaliponbbaaGreatDoor
open Go Go.RowKit Go.Proofs Fl
theorem dochain_none {Ha:Nat->Prop}{h:Sl}{p:V8} (w:World) (f9 g9:Int) (o most:Nat) (hch:∀ W,Below w.heap.size w W->w.heap.size+2 < W.heap.size->Calls Tryz.prog 47 #[.agg #[.int .i64 1,.int .i32 f9,.int .i32 g9],arrV h p,.int .i64 (o:Int),.int .i64 (most:Int)] W (OaR (fun b=>Ha b\/b=w.heap.size+2) W none)) :
  Calls Tryz.prog 16 #[.agg #[.int .i64 1,.int .i32 f9,.int .i32 g9],arrV h p,.int .i64 (o:Int),.int .i64 (most:Int)] w (OaR Ha w none):=by
 have HS0:=Lib.hid (ChX.new w f9 g9 h p)
 have HCH:=Lib.hid hch
 unfold OaR at HCH
 dsimp only at HCH
 clear hch
 go_enter Tryz.func16,Tryz.ntmps16
 obtain ⟨h0,h1,h2,h3,h4,h5,h6,h7,h8⟩:=HS0.out.arr.c
 obtain ⟨c0,c1,c2⟩:_/\_/\_:=⟨HS0.out.ph.1 0,HS0.out.ph.1 1,HS0.out.ph.1 2⟩
 go_wp2_with fail
 refine (HCH.out _ HS0.out.bel (lt_blk HS0.out.res)).mono ?_
 rintro e w2 ⟨rfl,hb⟩
 have HS2:=Lib.hid ((HS0.out.step hb).step (bel1 w2 (arrO nilS zeroP)))
 clear hb HCH HS0 h0 h1 h2 h3 h4 h5 h6 h7 h8 c0 c1 c2
 obtain ⟨h0,h1,h2,h3,h4,h5,h6,h7,h8⟩:=HS2.out.arr.c
 obtain ⟨c0,c1,c2⟩:_/\_/\_:=⟨HS2.out.ph.1 0,HS2.out.ph.1 1,HS2.out.ph.1 2⟩
 have HBE:=Lib.hid (below_set9 HS2.out.bel (show w.heap.size<=w.heap.size+2 by omega) (.slice none 0 0) (.int .i64 0) (.slice none 0 0) (.int .i64 0) (.slice none 0 0) (.slice none 0 0) (.slice none 0 0) (.slice none 0 0) (.slice none 0 0))
 have HRE:=Lib.hid (set9_block HS2.out.res (.slice none 0 0) (.int .i64 0) (.slice none 0 0) (.int .i64 0) (.slice none 0 0) (.slice none 0 0) (.slice none 0 0) (.slice none 0 0) (.slice none 0 0))
 obtain ⟨⟨y0,y1,y2,y3,y4,y5,y6,y7,y8⟩,yz⟩:=zero_block HS2.out.res
 go_wp2
 refine bodyPost_ret (v := .tuple #[arrV nilS zeroP,.bool false]) ?_ rfl (oaR_no HBE.out)
 exact ret_arr2 (fn:=Tryz.f16) (p:=8) (u:=9) rfl _ _ (w.heap.size+2) (by rfl) HRE.out
theorem dochain_big {Ha:Nat->Prop}{h:Sl}{p:V8} (w:World) (f9 g9:Int) (o most:Nat) (x:PA) (hm:most < x.len) (hch:∀ W,Below w.heap.size w W->w.heap.size+2 < W.heap.size->Calls Tryz.prog 47 #[.agg #[.int .i64 1,.int .i32 f9,.int .i32 g9],arrV h p,.int .i64 (o:Int),.int .i64 (most:Int)] W (OaR (fun b=>Ha b\/b=w.heap.size+2) W (some x))) :
  Calls Tryz.prog 16 #[.agg #[.int .i64 1,.int .i32 f9,.int .i32 g9],arrV h p,.int .i64 (o:Int),.int .i64 (most:Int)] w (OaR Ha w none):=by
 have HS0:=Lib.hid (ChX.new w f9 g9 h p)
 have HCH:=Lib.hid hch
 unfold OaR at HCH
 dsimp only at HCH
 have hn1:(most:Int) < (x.len:Int):=by omega
 clear hch hm
 go_enter Tryz.func16,Tryz.ntmps16
 obtain ⟨h0,h1,h2,h3,h4,h5,h6,h7,h8⟩:=HS0.out.arr.c
 obtain ⟨c0,c1,c2⟩:_/\_/\_:=⟨HS0.out.ph.1 0,HS0.out.ph.1 1,HS0.out.ph.1 2⟩
 go_wp2_with fail
 refine (HCH.out _ HS0.out.bel (lt_blk HS0.out.res)).mono ?_
 rintro e w2 ⟨h2',p2,rfl,hav,hb⟩
 have HS2:=Lib.hid ((HS0.out.step hb).step (bel1 w2 (arrO h2' p2)))
 have HAV2:=Lib.hid (AV.step hav (bel1 w2 (arrO h2' p2)))
 have HBX:=Lib.hid (at9_new w2 h2' p2)
 have HL:Hid (∀ W,Below w2.heap.size w2 W->Calls Tryz.prog 48 #[p2.v] W fun e w'=>e= .returned (.int .i64 (x.len:Nat))/\Below W.heap.size W w'):=fun W hb=>av_len hav W hb
 clear hav hb HCH HS0 h0 h1 h2 h3 h4 h5 h6 h7 h8 c0 c1 c2
 obtain ⟨q0,q1,q2,q3,q4,q5,q6,q7,q8⟩:=HBX.out.c
 go_wp2_with fail
 refine (HL.out _ (bel1 w2 _)).mono ?_
 rintro e w3 ⟨rfl,hb⟩
 have HS3:=Lib.hid (HS2.out.step hb)
 have HBX3:=Lib.hid (HBX.out.below hb)
 have HAV3:=Lib.hid (AV.step HAV2.out hb)
 clear hb q0 q1 q2 q3 q4 q5 q6 q7 q8 HBX HS2 HAV2
 obtain ⟨q0,q1,q2,q3,q4,q5,q6,q7,q8⟩:=HBX3.out.c
 clear HAV3 HBX3
 have HBE:=Lib.hid (below_set9 HS3.out.bel (show w.heap.size<=w.heap.size+2 by omega) (.slice none 0 0) (.int .i64 0) (.slice none 0 0) (.int .i64 0) (.slice none 0 0) (.slice none 0 0) (.slice none 0 0) (.slice none 0 0) (.slice none 0 0))
 have HRE:=Lib.hid (set9_block HS3.out.res (.slice none 0 0) (.int .i64 0) (.slice none 0 0) (.int .i64 0) (.slice none 0 0) (.slice none 0 0) (.slice none 0 0) (.slice none 0 0) (.slice none 0 0))
 obtain ⟨⟨y0,y1,y2,y3,y4,y5,y6,y7,y8⟩,yz⟩:=zero_block HS3.out.res
 go_wp2
 refine bodyPost_ret (v := .tuple #[arrV nilS zeroP,.bool false]) ?_ rfl (oaR_no HBE.out)
 exact ret_arr2 (fn:=Tryz.f16) (p:=8) (u:=9) rfl _ _ (w.heap.size+2) (by rfl) HRE.out
theorem dochain_ok {Ha:Nat->Prop}{h:Sl}{p:V8} (w:World) (f9 g9:Int) (o most:Nat) (x:PA) (hm:x.len<=most) (hch:∀ W,Below w.heap.size w W->w.heap.size+2 < W.heap.size->Calls Tryz.prog 47 #[.agg #[.int .i64 1,.int .i32 f9,.int .i32 g9],arrV h p,.int .i64 (o:Int),.int .i64 (most:Int)] W (OaR (fun b=>Ha b\/b=w.heap.size+2) W (some x))) :
  Calls Tryz.prog 16 #[.agg #[.int .i64 1,.int .i32 f9,.int .i32 g9],arrV h p,.int .i64 (o:Int),.int .i64 (most:Int)] w (OaR Ha w (some x)):=by
 have HS0:=Lib.hid (ChX.new w f9 g9 h p)
 have HCH:=Lib.hid hch
 unfold OaR at HCH
 dsimp only at HCH
 have hn1:¬ (most:Int) < (x.len:Int):=by omega
 have hn2:¬ most < x.len:=by omega
 have hn3:decide (most < x.len)=false:=decide_eq_false hn2
 clear hch hm
 go_enter Tryz.func16,Tryz.ntmps16
 obtain ⟨h0,h1,h2,h3,h4,h5,h6,h7,h8⟩:=HS0.out.arr.c
 obtain ⟨c0,c1,c2⟩:_/\_/\_:=⟨HS0.out.ph.1 0,HS0.out.ph.1 1,HS0.out.ph.1 2⟩
 go_wp2_with fail
 refine (HCH.out _ HS0.out.bel (lt_blk HS0.out.res)).mono ?_
 rintro e w2 ⟨h2',p2,rfl,hav,hb⟩
 have HS2:=Lib.hid ((HS0.out.step hb).step (bel1 w2 (arrO h2' p2)))
 have HAV2:=Lib.hid (AV.step hav (bel1 w2 (arrO h2' p2)))
 have HBX:=Lib.hid (at9_new w2 h2' p2)
 have HL:Hid (∀ W,Below w2.heap.size w2 W->Calls Tryz.prog 48 #[p2.v] W fun e w'=>e= .returned (.int .i64 (x.len:Nat))/\Below W.heap.size W w'):=fun W hb=>av_len hav W hb
 clear hav hb HCH HS0 h0 h1 h2 h3 h4 h5 h6 h7 h8 c0 c1 c2
 obtain ⟨q0,q1,q2,q3,q4,q5,q6,q7,q8⟩:=HBX.out.c
 go_wp2_with fail
 refine (HL.out _ (bel1 w2 _)).mono ?_
 rintro e w3 ⟨rfl,hb⟩
 have HS3:=Lib.hid (HS2.out.step hb)
 have HBX3:=Lib.hid (HBX.out.below hb)
 have HAV3:=Lib.hid (AV.step HAV2.out hb)
 clear hb q0 q1 q2 q3 q4 q5 q6 q7 q8 HBX HS2 HAV2
 obtain ⟨q0,q1,q2,q3,q4,q5,q6,q7,q8⟩:=HBX3.out.c
 have HAV:Hid (AV Ha (set9 w3 (w.heap.size+2) (sv h2') (.int .i64 p2.k) (sv p2.b) (.int .i64 p2.bn) (sv p2.s) (sv p2.i) (sv p2.f) (sv p2.c) (sv p2.x)) x h2' p2):=AV.sub (fun b _ e => .inl e) (AV.lat (Lat.set9 (G:=w.heap.size+2) (.inr rfl) _ _ _ _ _ _ _ _ _) HAV3.out)
 have HBE:=Lib.hid (below_set9 HS3.out.bel (show w.heap.size<=w.heap.size+2 by omega) (sv h2') (.int .i64 p2.k) (sv p2.b) (.int .i64 p2.bn) (sv p2.s) (sv p2.i) (sv p2.f) (sv p2.c) (sv p2.x))
 have HRE:=Lib.hid (set9_block HS3.out.res (sv h2') (.int .i64 p2.k) (sv p2.b) (.int .i64 p2.bn) (sv p2.s) (sv p2.i) (sv p2.f) (sv p2.c) (sv p2.x))
 go_upto_if 28 with (fail)
 obtain ⟨⟨y0,y1,y2,y3,y4,y5,y6,y7,y8⟩,yz⟩:=zero_block HS3.out.res
 go_wp2
 refine bodyPost_ret (v := .tuple #[arrV h2' p2,.bool true]) ?_ rfl (oaR_yes HAV.out HBE.out)
 exact ret_arr2 (fn:=Tryz.f16) (p:=8) (u:=9) rfl _ _ (w.heap.size+2) (by rfl) HRE.out
noncomputable def dE (j:Nat) (a:PA) (o most:Nat):Option PA:=(chE j a o most).bind fun x=>if x.len<=most then some x else none
theorem chain_any {Ha:Nat->Prop}{a:PA}{h:Sl}{p:V8} (w:World) (g:AV Ha w a h p) (hHa:∀ b,Ha b->b < w.heap.size) (o most:Nat) (j:Nat) (hj:j < 12) (tz:TzTab w) (d:Nat) (hgd:GoodA (d+1) a) (hsm:SmA 1000000 a) (hca:ChA a) (hl:a.len<=1000000) (ho:o<=1) (hmo:most<=1000000) :
  Calls Tryz.prog 47 #[.agg #[.int .i64 1,.int .i32 (sgF j),.int .i32 (sgG j)],arrV h p,.int .i64 (o:Int),.int .i64 (most:Int)] w (OaR Ha w (chE j a o most)):=by
 unfold chE
 by_cases h1:most < a.len\/a.len=0
 ·rw [if_pos h1]
  rcases h1 with h1 | h1
  ·exact chain_most w g hHa _ _ o most h1
  ·by_cases h2:most < a.len
   ·exact chain_most w g hHa _ _ o most h2
   ·exact chain_zero w g hHa _ _ o most h1
 rw [if_neg h1]
 have hn:0 < a.len:=by omega
 have hm:a.len<=most:=by omega
 have g2:AV (fun b=>Ha b\/b=w.heap.size+2) w a h p:=AV.sub (fun b hb e=>by rcases e with e | e;exact e;omega) g
 have hH2:∀ W:World,Below w.heap.size w W->w.heap.size+2 < W.heap.size->∀ b,(Ha b\/b=w.heap.size+2)->b < W.heap.size:=fun W hb hz b e=>by
  rcases e with e | e
  ·have:=hHa b e;have:=hb.size;omega
  ·omega
 match j,hj with
 | 0,_ =>
  show Calls _ _ _ _ (OaR Ha w (if a.shape.length=1 then some (partA a (a.len - 1)) else none))
  by_cases hr:a.shape.length=1
  ·rw [if_pos hr];exact chain_0_ok w g hHa o most hn hm hl hr
  ·rw [if_neg hr];exact chain_0_else w g hHa o most hn hm hr none fun W hb hz=>longer_0 W (AV.step g2 hb) (hH2 W hb hz) hn hl o most
 | 1,_ =>
  show Calls _ _ _ _ (OaR Ha w (if 0 < a.shape.length/\a.shape.length<=most then some (oneA (a.shape.getD 0 0:Nat)) else none))
  by_cases hr:a.shape.length=0
  ·rw [if_neg (fun e=>by omega)];exact chain_1a_else w g hHa o most hn hm hr none fun W hb hz=>longer_1 W (AV.step g2 hb) (hH2 W hb hz) hn hl o most
  ·by_cases hr2:a.shape.length<=most
   ·rw [if_pos ⟨by omega,hr2⟩];exact chain_1_ok w g hHa o most hn hm (d+1) hgd (by omega) hr2
   ·rw [if_neg (fun e=>hr2 e.2)];exact chain_1b_else w g hHa o most hn hm (by omega) hr2 none fun W hb hz=>longer_1 W (AV.step g2 hb) (hH2 W hb hz) hn hl o most
 | 2,_ =>
  show Calls _ _ _ _ (OaR Ha w (if a.shape.length=1/\a.fill≠2 then some (oneA ((extN (ltX (elA a) false) a.len:Nat)+(o:Nat))) else none))
  refine chain_2_else w g hHa o most hn hm _ fun W hb hz=>?_
  by_cases hr:a.shape.length=1
  ·by_cases hf:a.fill=2
   ·rw [if_neg (fun e=>e.2 hf)];exact longer_2_box W (AV.step g2 hb) (hH2 W hb hz) hn hl o most hr hf
   ·rw [if_pos ⟨hr,hf⟩];exact longer_2_ok W (AV.step g2 hb) (hH2 W hb hz) hn hl o most (d+1) hgd hca ho hr hf
  ·rw [if_neg (fun e=>hr e.1)];exact longer_2_rank W (AV.step g2 hb) (hH2 W hb hz) hn hl o most hr
 | 3,_ =>
  show Calls _ _ _ _ (OaR Ha w (if a.shape.length=1/\a.fill≠2 then some (oneA ((extN (ltX (elA a) true) a.len:Nat)+(o:Nat))) else none))
  refine chain_3_else w g hHa o most hn hm _ fun W hb hz=>?_
  by_cases hr:a.shape.length=1
  ·by_cases hf:a.fill=2
   ·rw [if_neg (fun e=>e.2 hf)];exact longer_3_box W (AV.step g2 hb) (hH2 W hb hz) hn hl o most hr hf
   ·rw [if_pos ⟨hr,hf⟩];exact longer_3_ok W (AV.step g2 hb) (hH2 W hb hz) hn hl o most (d+1) hgd hca ho hr hf
  ·rw [if_neg (fun e=>hr e.1)];exact longer_3_rank W (AV.step g2 hb) (hH2 W hb hz) hn hl o most hr
 | 4,_ =>
  show Calls _ _ _ _ (OaR Ha w (if a.shape.length=1/\tsA a=true/\0 < cnt (bitsA a) a.len then some (oneA ((firN (bitsA a) a.len:Nat)+(o:Nat))) else none))
  refine chain_4_else w g hHa o most hn hm _ fun W hb hz=>?_
  by_cases hr:a.shape.length=1
  ·cases ht:tsA a with
   | false=>rw [if_neg (fun e=>by cases e.2.1)];exact longer_4_bad W (AV.step g2 hb) (hH2 W hb hz) hn hl o most hr ht
   | true =>
    by_cases hc:0 < cnt (bitsA a) a.len
    ·rw [if_pos ⟨hr,rfl,hc⟩];exact longer_4_ok W (AV.step g2 hb) (hH2 W hb hz) hn hl o most (tz.below hb) ho hr ht hc
    ·rw [if_neg (fun e=>hc e.2.2)];exact longer_4_zero W (AV.step g2 hb) (hH2 W hb hz) hn hl o most hr ht (by omega)
  ·rw [if_neg (fun e=>hr e.1)];exact longer_4_rank W (AV.step g2 hb) (hH2 W hb hz) hn hl o most hr
 | 5,_ =>
  show Calls _ _ _ _ (OaR Ha w (if a.shape.length<=1 then some (oneA ((fstsL a a.len).length:Nat)) else none))
  by_cases hr:a.shape.length<=1
  ·rw [if_pos hr];exact chain_5_ok w g hHa o most hn hm hl d hgd hsm hr
  ·rw [if_neg hr];exact chain_5_else w g hHa o most hn hm hr none fun W hb hz=>longer_5 W (AV.step g2 hb) (hH2 W hb hz) hn hl o most
 | 6,_ =>
  show Calls _ _ _ _ (OaR Ha w (if a.shape.length=1/\tsA a=true then some (oneA (cnt (bitsA a) a.len:Nat)) else none))
  refine chain_6_else w g hHa o most hn hm _ fun W hb hz=>?_
  by_cases hr:a.shape.length=1
  ·cases ht:tsA a with
   | false=>rw [if_neg (fun e=>by cases e.2)];exact longer_6_bad W (AV.step g2 hb) (hH2 W hb hz) hn hl o most hr ht
   | true=>rw [if_pos ⟨hr,rfl⟩];exact longer_6_ok W (AV.step g2 hb) (hH2 W hb hz) hn hl o most hr ht
  ·rw [if_neg (fun e=>hr e.1)];exact longer_6_rank W (AV.step g2 hb) (hH2 W hb hz) hn hl o most hr
 | 7,_ =>
  show Calls _ _ _ _ (OaR Ha w (if a.shape.length<=most then some (oneA (a.shape.length:Nat)) else none))
  by_cases hr:a.shape.length<=most
  ·rw [if_pos hr];exact chain_7_ok w g hHa o most hn hm (d+1) hgd hr
  ·rw [if_neg hr];exact chain_7_else w g hHa o most hn hm hr none fun W hb hz=>longer_7 W (AV.step g2 hb) (hH2 W hb hz) hn hl o most
 | 8,_ =>
  show Calls _ _ _ _ (OaR Ha w (if a.shape.length<=most then some (listA [(a.shape.length:Nat)]) else none))
  by_cases hr:a.shape.length<=most
  ·rw [if_pos hr];exact chain_8_ok w g hHa o most hn hm (d+1) hgd hr
  ·rw [if_neg hr];exact chain_8_else w g hHa o most hn hm hr none fun W hb hz=>longer_8 W (AV.step g2 hb) (hH2 W hb hz) hn hl o most
 | 9,_=>exact chain_9_ok w g hHa o most hn hm hl
 | 10,_ =>
  show Calls _ _ _ _ (OaR Ha w ((iotaN a most).map fun m => .nums [m] ((List.range m).map fun i=>fi ((m - 1 - i+o:Nat):Int))))
  refine chain_10_else w g hHa o most hn hm _ fun W hb hz=>?_
  cases hi:iotaN a most with
  | none=>exact longer_10_no W (AV.step g2 hb) (hH2 W hb hz) hn hl o most hmo ho hi
  | some m=>exact longer_10_ok W (AV.step g2 hb) (hH2 W hb hz) hn hl o most hmo ho m hi (by have:=iotaN_le hi;omega)
 | 11,_=>exact chain_11_ok w g hHa o most hn hm hl
theorem dochain_any {Ha:Nat->Prop}{a:PA}{h:Sl}{p:V8} (w:World) (g:AV Ha w a h p) (hHa:∀ b,Ha b->b < w.heap.size) (o most:Nat) (j:Nat) (hj:j < 12) (tz:TzTab w) (d:Nat) (hgd:GoodA (d+1) a) (hsm:SmA 1000000 a) (hca:ChA a) (hl:a.len<=1000000) (ho:o<=1) (hmo:most<=1000000) :
  Calls Tryz.prog 16 #[.agg #[.int .i64 1,.int .i32 (sgF j),.int .i32 (sgG j)],arrV h p,.int .i64 (o:Int),.int .i64 (most:Int)] w (OaR Ha w (dE j a o most)):=by
 have hc:∀ W,Below w.heap.size w W->w.heap.size+2 < W.heap.size->Calls Tryz.prog 47 #[.agg #[.int .i64 1,.int .i32 (sgF j),.int .i32 (sgG j)],arrV h p,.int .i64 (o:Int),.int .i64 (most:Int)] W (OaR (fun b=>Ha b\/b=w.heap.size+2) W (chE j a o most)):=fun W hb hz =>
  chain_any W (AV.step (AV.sub (fun b hb e=>by rcases e with e | e;exact e;omega) g) hb) (fun b e=>by
   rcases e with e | e
   ·have:=hHa b e;have:=hb.size;omega
   ·omega) o most j hj (tz.below hb) d hgd hsm hca hl ho hmo
 unfold dE
 cases hx:chE j a o most with
 | none=>rw [hx] at hc;exact dochain_none w _ _ o most hc
 | some x =>
  rw [hx] at hc
  show Calls _ _ _ _ (OaR Ha w (if x.len<=most then some x else none))
  by_cases hm:x.len<=most
  ·rw [if_pos hm];exact dochain_ok w _ _ o most x hm hc
  ·rw [if_neg hm];exact dochain_big w _ _ o most x (by omega) hc
theorem rch_of {j:Nat}{a x R:PA}{o most:Nat} (h1:rG j a o most=some R) (h2:R.len<=most) (h3:rF j R=x) (h4:x.len<=most):rchE j a o most=some x:=by
 unfold rchE
 rw [h1]
 unfold toldE
 simp only [Option.bind_some]
 rw [if_pos h2]
 simp only [Option.bind_some]
 rw [h3,if_pos h4]
theorem ixP_zero (m:Nat):ixP m 0=0:=by unfold ixP;split <;> rfl
theorem firE_nums {s l:List Nat} (h:0 < l.length):firE (.nums s l)= .nums [] [l.getD 0 0]:=by
 unfold firE
 rw [if_pos (show 0 < (PA.nums s l).len from h)]
 show PA.nums [] [l.getD (ixP l.length 0) 0]=_
 rw [ixP_zero]
theorem onK_cnt (T:Nat->Bool):∀ n,(onK T n).length=cnt T n
 | 0=>rfl
 | n+1=>by
  rw [cnt,<- onK_cnt T n]
  by_cases h:T n=true
  ·rw [onK_yes h,if_pos h,List.length_append];rfl
  ·rw [onK_no (by simpa using h),if_neg h];rfl
theorem onK_fir (T:Nat->Bool):∀ n,(firN T n < n->(onK T n).getD 0 0=firN T n/\0 < (onK T n).length)/\(¬ firN T n < n->firN T n=n/\onK T n=[])
 | 0=>⟨fun h=>absurd h (Nat.not_lt_zero _),fun _=>⟨rfl,rfl⟩⟩
 | n+1=>by
  obtain ⟨h1,h2⟩:=onK_fir T n
  rw [firN]
  by_cases h:firN T n < n
  ·rw [if_pos h]
   obtain ⟨g1,g2⟩:=h1 h
   refine ⟨fun _=>?_,fun h9=>absurd (show firN T n < n+1 by omega) h9⟩
   by_cases ht:T n=true
   ·rw [onK_yes ht]
    refine ⟨?_,by simp⟩
    rw [List.getD_eq_getElem?_getD,List.getElem?_append_left g2,<- List.getD_eq_getElem?_getD]
    exact g1
   ·rw [onK_no (by simpa using ht)]
    exact ⟨g1,g2⟩
  ·rw [if_neg h]
   obtain ⟨g1,g2⟩:=h2 h
   by_cases ht:T n=true
   ·rw [if_pos ht,onK_yes ht,g2]
    exact ⟨fun _=>⟨rfl,by simp⟩,fun h9=>absurd (Nat.lt_succ_self n) h9⟩
   ·rw [if_neg ht,onK_no (by simpa using ht),g2]
    exact ⟨fun h9=>absurd h9 (Nat.lt_irrefl _),fun _=>⟨rfl,rfl⟩⟩
theorem fstK_len {a:PA}:∀ k,k<=a.len->(fstK (rawP a).its k).length=(fstsL a k).length:=fun k hk=>by
 unfold fstK fstsL
 congr 1
 refine List.filter_congr fun i hi=>?_
 have hik:i < a.len:=by have:=List.mem_range.1 hi;omega
 have he:∀ j,j < a.len->(rawP a).its[j]?=some (elA a j):=fun j hj=>by
  have hl:j < (rawP a).its.length:=by rw [rawP_len];exact hj
  rw [<- rawP_at hj]
  simp [List.getD,hl]
 have hiff:fstP (rawP a).its i↔fstI (elA a) i:=by
  unfold fstP fstI
  refine ⟨fun h j hj=>?_,fun h j hj=>?_⟩
  ·have:=h j hj
   rw [he j (by omega),he i hik] at this
   exact fun e=>this (by rw [e])
  ·rw [he j (by omega),he i hik]
   exact fun e=>h j hj (Option.some.inj e)
 unfold fstB
 by_cases h:fstI (elA a) i
 ·rw [@decide_eq_true _ (Classical.propDecidable _) h,@decide_eq_true _ (Classical.propDecidable _) (hiff.2 h)]
 ·rw [@decide_eq_false _ (Classical.propDecidable _) h,@decide_eq_false _ (Classical.propDecidable _) (fun h9=>h (hiff.1 h9))]
theorem one_axis {d:Nat}{a:PA} (hg:GoodA d a) (h:a.shape.length=1):a.shape=[a.len]:=by
 have h1:=hg.sh.2.2.2
 match hs:a.shape,h with
 | [n],_ =>
  rw [hs] at h1
  have:n*1=a.len:=h1
  rw [show n=a.len by omega]
theorem grK_one {d:Nat}{a:PA} (hg:GoodA d a) (h:a.shape.length=1) (hn:0 < a.len) (down:Bool):(grK a down).length=a.len/\(grK a down).getD 0 0=extN (ltX (elA a) down) a.len:=by
 have hs:=one_axis hg h
 unfold grK
 rw [hs]
 have e9:prodN ([a.len]:List Nat).tail=1:=rfl
 rw [e9,if_pos (by decide),Nat.div_one,rawP_len]
 refine ⟨by simp,?_⟩
 have e:((List.range a.len).map (gradeN (lessE (fun p=>(rawP a).its.getD p default) 1 down) a.len a.len)).getD 0 0=gradeN (lessE (fun p=>(rawP a).its.getD p default) 1 down) a.len a.len 0:=by simp [List.getD,hn]
 rw [e,grade_ext _ down _ hn]
 refine extN_congr _ fun i j hi hj=>?_
 have e1:=rawP_at hi
 have e2:=rawP_at hj
 unfold ltX ltE
 simp only [e1,e2]
theorem chE_0 (a:PA) (o most:Nat):chE 0 a o most=(if most < a.len\/a.len=0 then none else if a.shape.length=1 then some (partA a (a.len - 1)) else none):=rfl
theorem chE_1 (a:PA) (o most:Nat):chE 1 a o most=(if most < a.len\/a.len=0 then none else if 0 < a.shape.length/\a.shape.length<=most then some (oneA (a.shape.getD 0 0:Nat)) else none):=rfl
theorem chE_2 (a:PA) (o most:Nat):chE 2 a o most=(if most < a.len\/a.len=0 then none else if a.shape.length=1/\a.fill≠2 then some (oneA ((extN (ltX (elA a) false) a.len:Nat)+(o:Nat))) else none):=rfl
theorem chE_3 (a:PA) (o most:Nat):chE 3 a o most=(if most < a.len\/a.len=0 then none else if a.shape.length=1/\a.fill≠2 then some (oneA ((extN (ltX (elA a) true) a.len:Nat)+(o:Nat))) else none):=rfl
theorem chE_4 (a:PA) (o most:Nat):chE 4 a o most=(if most < a.len\/a.len=0 then none else if a.shape.length=1/\tsA a=true/\0 < cnt (bitsA a) a.len then some (oneA ((firN (bitsA a) a.len:Nat)+(o:Nat))) else none):=rfl
theorem chE_5 (a:PA) (o most:Nat):chE 5 a o most=(if most < a.len\/a.len=0 then none else if a.shape.length<=1 then some (oneA ((fstsL a a.len).length:Nat)) else none):=rfl
theorem chE_6 (a:PA) (o most:Nat):chE 6 a o most=(if most < a.len\/a.len=0 then none else if a.shape.length=1/\tsA a=true then some (oneA (cnt (bitsA a) a.len:Nat)) else none):=rfl
theorem chE_7 (a:PA) (o most:Nat):chE 7 a o most=(if most < a.len\/a.len=0 then none else if a.shape.length<=most then some (oneA (a.shape.length:Nat)) else none):=rfl
theorem chE_8 (a:PA) (o most:Nat):chE 8 a o most=(if most < a.len\/a.len=0 then none else if a.shape.length<=most then some (listA [(a.shape.length:Nat)]) else none):=rfl
theorem chE_9 (a:PA) (o most:Nat):chE 9 a o most=(if most < a.len\/a.len=0 then none else some (oneA (a.len:Nat))):=rfl
theorem chE_10 (a:PA) (o most:Nat):chE 10 a o most=(if most < a.len\/a.len=0 then none else (iotaN a most).map fun m => .nums [m] ((List.range m).map fun i=>fi ((m - 1 - i+o:Nat):Int))):=rfl
theorem chE_11 (a:PA) (o most:Nat):chE 11 a o most=(if most < a.len\/a.len=0 then none else some (partA a 0)):=rfl
theorem chl_0 {d:Nat}{a:PA} (hg:GoodA d a){o most:Nat}{y:PA} (hm:a.len<=most) (hn:0 < a.len) (h1:chE 0 a o most=some y) (hx:y.len<=most):rchE 0 a o most=some y:=by
 have _:=hg
 rw [chE_0,if_neg (by omega)] at h1
 split at h1
 ·rename_i hs
  injection h1 with h1
  subst h1
  have he:revA a=pkA a.shape a (revK a):=by unfold revA;rw [if_neg (by omega)]
  have hk:=revK_one (one_axis hg hs) rfl
  have hl:(revA a).len=a.len:=by rw [he,pkA_len,hk];simp
  refine rch_of (R:=revA a) rfl (by omega) ?_ hx
  show firE (revA a)=_
  unfold firE
  rw [if_pos (by omega),he]
  refine pkA_part ?_ (by omega)
  rw [hk]
  simp [hn]
 ·exact absurd h1 (by simp)
theorem chl_1 {d:Nat}{a:PA} (hg:GoodA d a){o most:Nat}{y:PA} (hm:a.len<=most) (hn:0 < a.len) (h1:chE 1 a o most=some y) (hx:y.len<=most):rchE 1 a o most=some y:=by
 have _:=hg
 rw [chE_1,if_neg (by omega)] at h1
 split at h1
 ·rename_i hs
  injection h1 with h1
  subst h1
  refine rch_of (R:=shpA a) rfl (by show (a.shape.map _).length<=_;rw [List.length_map];exact hs.2) ?_ hx
  show firE (shpA a)=_
  unfold shpA
  rw [firE_nums (by rw [List.length_map];exact hs.1)]
  unfold oneA
  congr 2
  simp [List.getD,hs.1]
 ·exact absurd h1 (by simp)
theorem chl_2 {d:Nat}{a:PA} (hg:GoodA d a){o most:Nat}{y:PA} (hm:a.len<=most) (hn:0 < a.len) (h1:chE 2 a o most=some y) (hx:y.len<=most):rchE 2 a o most=some y:=by
 have _:=hg
 rw [chE_2,if_neg (by omega)] at h1
 split at h1
 ·rename_i hs
  injection h1 with h1
  subst h1
  obtain ⟨g1,g2⟩:=grK_one hg hs.1 hn false
  refine rch_of (R := .nums [(grK a false).length] ((grK a false).map fun i=>fi ((i+o:Nat):Int))) (by show grE a false o=_;unfold grE;rw [if_neg (by omega)]) (by show (List.map _ _).length<=_;rw [List.length_map,g1];exact hm) ?_ hx
  show firE _=_
  rw [firE_nums (by rw [List.length_map];omega)]
  unfold oneA
  congr 2
  rw [<- g2]
  have h9:0 < (grK a false).length:=by omega
  simp [List.getD,h9]
 ·exact absurd h1 (by simp)
theorem chl_3 {d:Nat}{a:PA} (hg:GoodA d a){o most:Nat}{y:PA} (hm:a.len<=most) (hn:0 < a.len) (h1:chE 3 a o most=some y) (hx:y.len<=most):rchE 3 a o most=some y:=by
 have _:=hg
 rw [chE_3,if_neg (by omega)] at h1
 split at h1
 ·rename_i hs
  injection h1 with h1
  subst h1
  obtain ⟨g1,g2⟩:=grK_one hg hs.1 hn true
  refine rch_of (R := .nums [(grK a true).length] ((grK a true).map fun i=>fi ((i+o:Nat):Int))) (by show grE a true o=_;unfold grE;rw [if_neg (by omega)]) (by show (List.map _ _).length<=_;rw [List.length_map,g1];exact hm) ?_ hx
  show firE _=_
  rw [firE_nums (by rw [List.length_map];omega)]
  unfold oneA
  congr 2
  rw [<- g2]
  have h9:0 < (grK a true).length:=by omega
  simp [List.getD,h9]
 ·exact absurd h1 (by simp)
theorem chl_4 {d:Nat}{a:PA} (hg:GoodA d a){o most:Nat}{y:PA} (hm:a.len<=most) (hn:0 < a.len) (h1:chE 4 a o most=some y) (hx:y.len<=most):rchE 4 a o most=some y:=by
 have _:=hg
 rw [chE_4,if_neg (by omega)] at h1
 split at h1
 ·rename_i hs
  injection h1 with h1
  subst h1
  have hc:=onK_cnt (bitsA a) a.len
  have hle:=onK_le (bitsA a) a.len
  have hpos:0 < (onK (bitsA a) a.len).length:=by have:=hs.2.2;omega
  have hf:(onK (bitsA a) a.len).getD 0 0=firN (bitsA a) a.len:=by
   by_cases h9:firN (bitsA a) a.len < a.len
   ·exact ((onK_fir (bitsA a) a.len).1 h9).1
   ·have:=((onK_fir (bitsA a) a.len).2 h9).2
    rw [this] at hpos
    exact absurd hpos (Nat.lt_irrefl _)
  refine rch_of (R := .nums [(onK (bitsA a) a.len).length] ((onK (bitsA a) a.len).map fun i=>fi ((i+o:Nat):Int))) (by show whE a o=_;unfold whE;rw [if_pos ⟨hs.1,hs.2.1⟩]) (by show (List.map _ _).length<=_;rw [List.length_map];omega) ?_ hx
  show firE _=_
  rw [firE_nums (by rw [List.length_map];exact hpos)]
  unfold oneA
  congr 2
  rw [<- hf]
  simp [List.getD,hpos]
 ·exact absurd h1 (by simp)
theorem chl_5 {d:Nat}{a:PA} (hg:GoodA d a){o most:Nat}{y:PA} (hm:a.len<=most) (hn:0 < a.len) (h1:chE 5 a o most=some y) (hx:y.len<=most):rchE 5 a o most=some y:=by
 have _:=hg
 rw [chE_5,if_neg (by omega)] at h1
 split at h1
 ·rename_i hs
  injection h1 with h1
  subst h1
  have hl:=fstK_len (a:=a) a.len (Nat.le_refl _)
  have hle:=fstK_le (rawP a).its a.len
  refine rch_of (R:=pkA [(fstK (rawP a).its a.len).length] a (fstK (rawP a).its a.len)) (by show unE a=_;unfold unE;rw [if_pos hs]) (by rw [pkA_len];omega) ?_ hx
  show oneA (talN _:Int)=_
  unfold talN
  rw [pkA_shape]
  show oneA (((fstK (rawP a).its a.len).length:Nat):Int)=_
  rw [hl]
 ·exact absurd h1 (by simp)
theorem chl_6 {d:Nat}{a:PA} (hg:GoodA d a){o most:Nat}{y:PA} (hm:a.len<=most) (hn:0 < a.len) (h1:chE 6 a o most=some y) (hx:y.len<=most):rchE 6 a o most=some y:=by
 have _:=hg
 rw [chE_6,if_neg (by omega)] at h1
 split at h1
 ·rename_i hs
  injection h1 with h1
  subst h1
  have hc:=onK_cnt (bitsA a) a.len
  have hle:=onK_le (bitsA a) a.len
  refine rch_of (R := .nums [(onK (bitsA a) a.len).length] ((onK (bitsA a) a.len).map fun i=>fi ((i+o:Nat):Int))) (by show whE a o=_;unfold whE;rw [if_pos hs]) (by show (List.map _ _).length<=_;rw [List.length_map];omega) ?_ hx
  show oneA (((onK (bitsA a) a.len).length:Nat):Int)=_
  rw [hc]
 ·exact absurd h1 (by simp)
theorem chl_7 {d:Nat}{a:PA} (hg:GoodA d a){o most:Nat}{y:PA} (hm:a.len<=most) (hn:0 < a.len) (h1:chE 7 a o most=some y) (hx:y.len<=most):rchE 7 a o most=some y:=by
 have _:=hg
 rw [chE_7,if_neg (by omega)] at h1
 split at h1
 ·rename_i hs
  injection h1 with h1
  subst h1
  exact rch_of (R:=shpA a) rfl (by show (a.shape.map _).length<=_;rw [List.length_map];exact hs) rfl hx
 ·exact absurd h1 (by simp)
theorem chl_8 {d:Nat}{a:PA} (hg:GoodA d a){o most:Nat}{y:PA} (hm:a.len<=most) (hn:0 < a.len) (h1:chE 8 a o most=some y) (hx:y.len<=most):rchE 8 a o most=some y:=by
 have _:=hg
 rw [chE_8,if_neg (by omega)] at h1
 split at h1
 ·rename_i hs
  injection h1 with h1
  subst h1
  exact rch_of (R:=shpA a) rfl (by show (a.shape.map _).length<=_;rw [List.length_map];exact hs) rfl hx
 ·exact absurd h1 (by simp)
theorem chl_9 {d:Nat}{a:PA} (hg:GoodA d a){o most:Nat}{y:PA} (hm:a.len<=most) (hn:0 < a.len) (h1:chE 9 a o most=some y) (hx:y.len<=most):rchE 9 a o most=some y:=by
 have _:=hg
 rw [chE_9,if_neg (by omega)] at h1
 injection h1 with h1
 subst h1
 refine rch_of (R:=ravA a) rfl (by unfold ravA;rw [pkA_len,List.length_range];exact hm) ?_ hx
 show oneA (talN (ravA a):Int)=_
 unfold talN ravA
 rw [pkA_shape]
theorem chl_10 {d:Nat}{a:PA} (hg:GoodA d a){o most:Nat}{y:PA} (hm:a.len<=most) (hn:0 < a.len) (h1:chE 10 a o most=some y) (hx:y.len<=most):rchE 10 a o most=some y:=by
 have _:=hg
 rw [chE_10,if_neg (by omega)] at h1
 obtain ⟨m,hm1,hm2⟩:=Option.map_eq_some_iff.1 h1
 subst hm2
 have hml:m<=most:=by
  have:(List.map (fun i=>fi ((m - 1 - i+o:Nat):Int)) (List.range m)).length<=most:=hx
  simpa using this
 refine rch_of (R := .nums [m] ((List.range m).map fun j=>fi ((j+o:Nat):Int))) (by show (iotaN a most).map _=_;rw [hm1,Option.map_some]) (by show (List.map _ _).length<=_;simpa using hml) ?_ hx
 show revA _=_
 by_cases h9:m=0
 ·subst h9
  simp only [List.range_zero,List.map_nil]
  unfold revA
  exact if_pos (Or.inl rfl)
 ·unfold revA
  have hlen:(PA.nums [m] ((List.range m).map fun j=>fi ((j+o:Nat):Int))).len=m:=by show (List.map _ _).length=m;simp
  rw [if_neg (by rw [hlen];show ¬ (m=0\/1=0);omega),revK_one rfl hlen]
  show PA.nums [m] _=_
  congr 1
  rw [List.map_map]
  refine List.map_congr_left fun i hi=>?_
  have:=List.mem_range.1 hi
  have h8:m - 1 - i < m:=by omega
  simp [List.getD,h8]
theorem chl_11 {d:Nat}{a:PA} (hg:GoodA d a){o most:Nat}{y:PA} (hm:a.len<=most) (hn:0 < a.len) (h1:chE 11 a o most=some y) (hx:y.len<=most):rchE 11 a o most=some y:=by
 have _:=hg
 rw [chE_11,if_neg (by omega)] at h1
 injection h1 with h1
 subst h1
 refine rch_of (R:=ravA a) rfl (by unfold ravA;rw [pkA_len,List.length_range];exact hm) ?_ hx
 show firE (ravA a)=_
 unfold firE ravA
 rw [pkA_len,List.length_range,if_pos hn]
 exact pkA_part (by simp [hn]) hn
theorem chain_law {d:Nat}{a:PA} (hg:GoodA d a){o most:Nat}{j:Nat} (hj:j < 12){x:PA} (h:dE j a o most=some x):rchE j a o most=some x:=by
 unfold dE at h
 obtain ⟨y,h1,h2⟩:=Option.bind_eq_some_iff.1 h
 by_cases hx:¬ y.len<=most
 ·rw [if_neg hx] at h2;exact absurd h2 (by simp)
 have hx:=Decidable.not_not.1 hx
 rw [if_pos hx] at h2
 injection h2 with h2
 subst h2
 clear h
 have hne:¬ (most < a.len\/a.len=0):=fun h0=>by
  unfold chE at h1
  rw [if_pos h0] at h1
  exact absurd h1 (by simp)
 have hm:a.len<=most:=by omega
 have hn:0 < a.len:=by omega
 match j,hj,h1 with
 | 0,_,h1=>exact chl_0 hg hm hn h1 hx
 | 1,_,h1=>exact chl_1 hg hm hn h1 hx
 | 2,_,h1=>exact chl_2 hg hm hn h1 hx
 | 3,_,h1=>exact chl_3 hg hm hn h1 hx
 | 4,_,h1=>exact chl_4 hg hm hn h1 hx
 | 5,_,h1=>exact chl_5 hg hm hn h1 hx
 | 6,_,h1=>exact chl_6 hg hm hn h1 hx
 | 7,_,h1=>exact chl_7 hg hm hn h1 hx
 | 8,_,h1=>exact chl_8 hg hm hn h1 hx
 | 9,_,h1=>exact chl_9 hg hm hn h1 hx
 | 10,_,h1=>exact chl_10 hg hm hn h1 hx
 | 11,_,h1=>exact chl_11 hg hm hn h1 hx
 | n+12,h9,_=>omega
theorem chain_must {a:PA}{o most:Nat}{j:Nat} (hj:j=0\/j=5) (hs:a.shape.length=1) (hf:a.fill=0) (hn:0 < a.len) (hm:a.len<=most):∃ x,dE j a o most=some x:=by
 rcases hj with rfl | rfl
 ·refine ⟨partA a (a.len - 1),?_⟩
  have h1:chE 0 a o most=some (partA a (a.len - 1)):=by rw [chE_0];rw [if_neg (by omega)];rw [if_pos hs]
  unfold dE
  rw [h1]
  simp only [Option.bind_some]
  refine if_pos ?_
  cases a with
  | nums s l=>show 1<=most;omega
  | chars s l=>exact absurd hf (show ¬ (1=0) by decide)
  | boxes s l=>exact absurd hf (show ¬ (2=0) by decide)
 ·refine ⟨oneA ((fstsL a a.len).length:Nat),?_⟩
  have h1:chE 5 a o most=some (oneA ((fstsL a a.len).length:Nat)):=by rw [chE_5];rw [if_neg (by omega)];rw [if_pos (by omega)]
  unfold dE
  rw [h1]
  simp only [Option.bind_some]
  exact if_pos (show 1<=most by omega)
def pairV:Array Value:=(((List.range 12).map fun j=>[Value.int .i32 (sgF j),Value.int .i32 (sgG j)]).flatten).toArray
theorem pairs_any (w:World):Calls Tryz.prog 15 #[] w fun e w'=>e= .returned (.slice (some ⟨w.heap.size,0,none⟩) 12 12)/\w'=w.alloc (.cells pairV 49):=by
 go_enter Tryz.func15,Tryz.ntmps15
 go_wp2
 go_ret
 exact ⟨rfl,rfl⟩
theorem origin_any (b:Bool) (w:World):Calls Tryz.prog 18 #[.bool b] w fun e w'=>e= .returned (.int .i64 ((if b then 1 else 0:Nat):Int))/\w'=w:=by
 go_enter Tryz.func18,Tryz.ntmps18
 cases b with
 | true=>go_wp2;go_ret;exact ⟨rfl,rfl⟩
 | false=>go_wp2;go_ret;exact ⟨rfl,rfl⟩
def PlQ (h x:Sl) (f:Int) (most:Nat) (w:World) (e:Ending) (w':World):Prop:=∃ b:Bool,e= .returned (.bool b)/\(b=true->f=0/\h.2.1=1/\0 < x.2.1/\x.2.1<=most)/\Below w.heap.size w w'
theorem plain34_any (h x:Sl) (f:Int) (most:Nat) (w:World):Calls Tryz.prog 21 #[plV h x f,.int .i64 (most:Int)] w (PlQ h x f most w):=by
 have HX0:=Lib.hid (at3_box w h x f)
 have HB0:=Lib.hid (bel1 w (plO h x f))
 go_enter Tryz.func21,Tryz.ntmps21
 obtain ⟨c0,c1,c2⟩:=at3_c HX0.out
 by_cases h1:f=0
 ·subst h1
  by_cases h2:h.2.1=1
  ·have e2:(((h.2.1:Nat):Int)==1)=true:=by rw [h2];rfl
   have H2:=Lib.hid h2
   clear h2
   by_cases h3:0 < x.2.1
   ·have e3:((x.2.1:Nat):Int) > 0:=by omega
    have f3:decide (((x.2.1:Nat):Int) > 0)=true:=decide_eq_true e3
    have t3:(0:Int) < ((x.2.1:Nat):Int):=by omega
    by_cases h4:x.2.1<=most
    ·have e4:((x.2.1:Nat):Int)<=(most:Int):=by omega
     have f4:decide (((x.2.1:Nat):Int)<=(most:Int))=true:=decide_eq_true e4
     have HH:=Lib.hid (And.intro h3 h4)
     clear h3 h4
     go_wp2
     go_ret
     exact ⟨true,rfl,fun _=>⟨rfl,H2.out,HH.out.1,HH.out.2⟩,HB0.out⟩
    ·have e4:¬ ((x.2.1:Nat):Int)<=(most:Int):=by omega
     have f4:decide (((x.2.1:Nat):Int)<=(most:Int))=false:=decide_eq_false e4
     clear h3 h4
     go_wp2
     go_ret
     exact ⟨false,rfl,fun e=>absurd e (by decide),HB0.out⟩
   ·have e3:¬ ((x.2.1:Nat):Int) > 0:=by omega
    have f3:decide (((x.2.1:Nat):Int) > 0)=false:=decide_eq_false e3
    have t3:¬ (0:Int) < ((x.2.1:Nat):Int):=by omega
    clear h3
    go_wp2
    go_ret
    exact ⟨false,rfl,fun e=>absurd e (by decide),HB0.out⟩
  ·have e2:(((h.2.1:Nat):Int)==1)=false:=by
    rw [beq_eq_false_iff_ne];omega
   clear h2
   go_wp2
   go_ret
   exact ⟨false,rfl,fun e=>absurd e (by decide),HB0.out⟩
 ·have e1:(f==0)=false:=by rw [beq_eq_false_iff_ne];exact h1
  clear h1
  go_wp2
  go_ret
  exact ⟨false,rfl,fun e=>absurd e (by decide),HB0.out⟩
theorem done_no (h1 x1:Sl) (f z:Int) (w:World) :
  Calls Tryz.prog 22 #[arrV nilS zeroP,.bool false,plV h1 x1 f,.int .i64 z] w fun e w'=>e= .returned (.bool true)/\Below w.heap.size w w':=by
 have HB:=Lib.hid (bel2 w zeroO (plO h1 x1 f))
 go_enter Tryz.func22,Tryz.ntmps22
 go_wp2_with fail
 refine (vkind_any 0 vnil 0 vnil vnil vnil vnil vnil _).mono ?_
 rintro e w1 ⟨rfl,hb⟩
 have HB1:=Lib.hid (bel_both HB.out hb)
 clear hb
 go_wp2
 go_ret
 exact ⟨rfl,HB1.out⟩
theorem done_ok {H H':Nat->Prop}{a:PA}{h:Sl}{p:V8}{h1 x1:Sl}{f:Int}{w:World} (hH:∀ b,H b->b < w.heap.size) (hg:GoodA 40 a) (hs:SmA 1000000 a) (hav:AV H w a h p) (hpv:PV H' w (rawP a) h1 x1 f) :
  Calls Tryz.prog 22 #[arrV h p,.bool true,plV h1 x1 f,.int .i64 0] w fun e w'=>e= .returned (.bool true)/\Below w.heap.size w w':=by
 obtain ⟨w0,hw0⟩:∃ w0,w0=(w.alloc (arrO h p)).alloc (plO h1 x1 f):=⟨_,rfl⟩
 have HW0:=Lib.hid hw0
 have HB0:Hid (Below w.heap.size w w0):=by unfold Hid;rw [hw0];exact bel2 _ _ _
 have HSH:=Lib.hid (shows34_ok (w:=w0) (fun b e=>by have:=hH b e;have:=HB0.out.size;omega) hg hs (AV.step hav HB0.out) (hpv.step HB0.out))
 have HQ:Hid (w0.heap[w.heap.size+1]?=some (plO h1 x1 f)):=by
  have h9:=heap_alloc_new (w.alloc (arrO h p)) (plO h1 x1 f)
  rw [show (w.alloc (arrO h p)).heap.size=w.heap.size+1 by simp] at h9
  unfold Hid
  rw [hw0]
  exact h9
 have HV:Hid (w0.heap[w.heap.size]?=some (arrO h p)):=by
  have h9:=heap_alloc_new w (arrO h p)
  unfold Hid
  rw [hw0]
  exact (Below.heap_alloc _ _ _ (lt_blk h9)).trans h9
 clear hH hg hs hav hpv hw0
 go_enter Tryz.func22,Tryz.ntmps22
 go_upto_region 1 with fail
 rw [<- HW0.out]
 obtain ⟨⟨c0,c1,c2,c3,c4,c5,c6,c7,c8⟩,cz⟩:=at9_of HV.out
 obtain ⟨⟨d0,d1,d2⟩,dz⟩:=block3 HQ.out
 go_wp2_with fail
 refine HSH.out.mono ?_
 rintro e w7 ⟨rfl,hb⟩
 have HB7:=Lib.hid (bel_both HB0.out hb)
 clear hb c0 c1 c2 c3 c4 c5 c6 c7 c8 d0 d1 d2 cz dz
 go_wp2
 go_ret
 exact ⟨rfl,HB7.out⟩
theorem oneA_good {d:Nat} (hd:0 < d){z:Int} (h0:0<=z) (h1:z<=4294967296):GoodA d (oneA z)/\SmA 1000000 (oneA z):=by
 unfold oneA
 rw [GoodA,SmA]
 refine ⟨⟨hd,⟨by decide,by decide,rfl⟩,fun y hy=>?_⟩,by simp⟩
 obtain rfl:y=fi z:=by simpa using hy
 exact tf_fi ⟨by omega,by omega⟩
theorem partA_small {a:PA} (hs:SmA 1000000 a){i:Nat} (hi:i < a.len):SmA 1000000 (partA a i):=by
 cases a with
 | nums s l=>show SmA 1000000 (PA.nums [] [_]);rw [SmA];simp
 | chars s l=>show SmA 1000000 (PA.chars [] [_]);rw [SmA];simp
 | boxes s l =>
  rw [SmA] at hs
  have hi2:i < l.length:=hi
  show SmA 1000000 (l.getD (ixP l.length i) default)
  rw [ixP_in hi2,show l.getD i default=l[i] from by simp [List.getD,hi2]]
  exact smAs_at hi2 hs.2
theorem chain_good {d:Nat}{a:PA} (hg:GoodA d a) (hs:SmA 1000000 a) (hl:a.len<=1000000){o most:Nat} (ho:o<=1) (hm:most<=1000000){j:Nat} (hj:j < 12){x:PA} (h:dE j a o most=some x):GoodA d x/\SmA 1000000 x:=by
 unfold dE at h
 obtain ⟨y,h1,h2⟩:=Option.bind_eq_some_iff.1 h
 by_cases hx:¬ y.len<=most
 ·rw [if_neg hx] at h2;exact absurd h2 (by simp)
 have hx:=Decidable.not_not.1 hx
 rw [if_pos hx] at h2
 injection h2 with h2
 subst h2
 clear h
 have hne:¬ (most < a.len\/a.len=0):=fun h0=>by
  unfold chE at h1
  rw [if_pos h0] at h1
  exact absurd h1 (by simp)
 have hn:0 < a.len:=by omega
 have hd:0 < d:=hg.sh.1
 have hok:OkSh a.shape a.len:=hg.sh.2
 have pg:∀ i,i < a.len->GoodA d (partA a i)/\SmA 1000000 (partA a i):=fun i hi=>⟨partA_good hg (by rw [ixP_in hi];exact hi),partA_small hs hi⟩
 match j,hj,h1 with
 | 0,_,h1 =>
  rw [chE_0,if_neg hne] at h1
  split at h1
  ·injection h1 with h1;subst h1;exact pg _ (by omega)
  ·exact absurd h1 (by simp)
 | 1,_,h1 =>
  rw [chE_1,if_neg hne] at h1
  split at h1
  ·rename_i hc
   injection h1 with h1;subst h1
   refine oneA_good hd (by omega) ?_
   have e:a.shape.getD 0 0=a.shape[0]'hc.1:=by simp [List.getD,hc.1]
   have:=Nat.le_trans (prod1_elem hc.1) hok.2.1
   omega
  ·exact absurd h1 (by simp)
 | 2,_,h1 =>
  rw [chE_2,if_neg hne] at h1
  split at h1
  ·injection h1 with h1;subst h1
   have:=extN_le (ltX (elA a) false) a.len
   exact oneA_good hd (by omega) (by omega)
  ·exact absurd h1 (by simp)
 | 3,_,h1 =>
  rw [chE_3,if_neg hne] at h1
  split at h1
  ·injection h1 with h1;subst h1
   have:=extN_le (ltX (elA a) true) a.len
   exact oneA_good hd (by omega) (by omega)
  ·exact absurd h1 (by simp)
 | 4,_,h1 =>
  rw [chE_4,if_neg hne] at h1
  split at h1
  ·injection h1 with h1;subst h1
   have:=(firN_is (bitsA a) a.len).1
   exact oneA_good hd (by omega) (by omega)
  ·exact absurd h1 (by simp)
 | 5,_,h1 =>
  rw [chE_5,if_neg hne] at h1
  split at h1
  ·injection h1 with h1;subst h1
   have h9:=fstK_len (a:=a) a.len (Nat.le_refl _)
   have h8:=fstK_le (rawP a).its a.len
   exact oneA_good hd (by omega) (by omega)
  ·exact absurd h1 (by simp)
 | 6,_,h1 =>
  rw [chE_6,if_neg hne] at h1
  split at h1
  ·injection h1 with h1;subst h1
   have:=cnt_le (bitsA a) a.len
   exact oneA_good hd (by omega) (by omega)
  ·exact absurd h1 (by simp)
 | 7,_,h1 =>
  rw [chE_7,if_neg hne] at h1
  split at h1
  ·injection h1 with h1;subst h1;exact oneA_good hd (by omega) (by omega)
  ·exact absurd h1 (by simp)
 | 8,_,h1 =>
  rw [chE_8,if_neg hne] at h1
  split at h1
  ·injection h1 with h1;subst h1
   unfold listA
   rw [GoodA,SmA]
   refine ⟨⟨hd,⟨by simp,(show prod1 [1]<=1048576 by decide),rfl⟩,fun y hy=>?_⟩,by simp⟩
   obtain rfl:y=fi (a.shape.length:Int):=by simpa using hy
   exact tf_fi ⟨by omega,by omega⟩
  ·exact absurd h1 (by simp)
 | 9,_,h1 =>
  rw [chE_9,if_neg hne] at h1
  injection h1 with h1;subst h1;exact oneA_good hd (by omega) (by omega)
 | 10,_,h1 =>
  rw [chE_10,if_neg hne] at h1
  obtain ⟨m,hm1,hm2⟩:=Option.map_eq_some_iff.1 h1
  subst hm2
  have hml:m<=most:=by
   have:(List.map (fun i=>fi ((m - 1 - i+o:Nat):Int)) (List.range m)).length<=most:=hx
   simpa using this
  rw [GoodA,SmA]
  refine ⟨⟨hd,⟨by simp,?_,?_⟩,fun y hy=>?_⟩,by simp;omega⟩
  ·show max 1 m*1<=1048576
   omega
  ·show m*1=_
   simp
  ·obtain ⟨i,hi,rfl⟩:=List.mem_map.1 hy
   exact tf_fi ⟨by omega,by omega⟩
 | 11,_,h1 =>
  rw [chE_11,if_neg hne] at h1
  injection h1 with h1;subst h1;exact pg _ (by omega)
 | n+12,h9,_=>omega
theorem tidyh_walk:∀ (d:Nat) (H:Nat->Prop) (t:RP) (h x:Sl) (f:Int) (w:World),(∀ b,H b->b < w.heap.size)->OkP d t->cntP t<=1048576->PV H w t h x f ->
  Calls Tryz.prog 20 #[plV h x f] w (PlRh H w h (rawP (clP t)) f)
 | 0,_,.mk s items fill,_,_,_,_,_,hok,_,_=>by rw [OkP] at hok;exact absurd hok.1 (Nat.lt_irrefl _)
 | d+1,H,.mk s items fill,h,x,f,w,hH,hok,hM,hr=>by
  obtain ⟨_,rfl,_,_⟩:=hr.open_
  rw [OkP] at hok
  obtain ⟨_,hf,⟨sn,rfl,_⟩,hi⟩:=hok
  rcases hf with rfl | rfl | rfl
  ·rw [raw_0];exact tdh_0 H d _ items h x w hH hi hM hr
  ·rw [raw_1];exact tdh_1 H d _ items h x w hH hi hM hr
  ·rw [raw_2];exact tdh_2 H d (fun H t h x f w h0 h1 h2 h3=>tidy_walk d H t h x f w h0 h1 h2 h3) _ items h x w hH hi hM hr
abbrev zPl:Obj:=plO nilS nilS 0
def ZP (Z:Nat) (W:World):Prop:=W.heap[Z]?=some zPl
theorem ZP.new (W:World):ZP W.heap.size (W.alloc zPl):=heap_alloc_new W _
theorem ZP.step {Z:Nat}{W W':World} (g:ZP Z W) (hb:Below W.heap.size W W'):ZP Z W':=by
 unfold ZP at g ⊢
 rw [hb.block _ (lt_blk g)]
 exact g
theorem ZP.dr {Z:Nat}{W:World} (g:ZP Z W):ZP Z W.drew:=g
theorem ZP.al {Z:Nat}{W:World} (g:ZP Z W) (o:Obj):ZP Z (W.alloc o):=g.step (bel1 W o)
theorem ZB.al {Z:Nat}{W:World} (g:ZB Z W) (o:Obj):ZB Z (W.alloc o):=g.step (bel1 W o)
theorem sz1a {w:World}{o:Obj}{n:Nat} (h:(w.alloc o).heap.size<=n):w.heap.size < n:=by simp at h;omega
abbrev Out (wr W w:World):Nat->Prop:=fun b=>wr.heap.size<=b/\(b < W.heap.size\/w.heap.size<=b)
abbrev Fre (wr W:World):Nat->Prop:=fun b=>wr.heap.size<=b/\b < W.heap.size
theorem av_out {wr W w1 w2:World}{a:PA}{h:Sl}{p:V8} (g:AV (Fre wr W) w1 a h p) (hb:Below w1.heap.size w1 w2):AV (Out wr W w1) w2 a h p :=
 AV.step (AV.sub (fun b hl e=>⟨e.1,by rcases e.2 with e | e <;> omega⟩) g) hb
theorem pv_out {wr W w1 w2:World}{t:RP}{h x:Sl}{f:Int} (g:PV (Fre wr W) w1 t h x f) (hb:Below w1.heap.size w1 w2):PV (Out wr W w1) w2 t h x f :=
 PV.step (PV.sub (fun b hl e=>⟨e.1,by rcases e.2 with e | e <;> omega⟩) g) hb
structure EgS (w wr:World) (h x:Sl) (f:Int) (W:World):Prop where
 one:At3 W w.heap.size 0 h x f
 bel:Below wr.heap.size wr W
 lo:w.heap.size+1<=wr.heap.size
theorem EgS.step {w wr W W':World}{h x:Sl}{f:Int} (g:EgS w wr h x f W) (hb:Below W.heap.size W W'):EgS w wr h x f W':=⟨At3.belowP g.one hb,bel_both g.bel hb,g.lo⟩
theorem EgS.dr {w wr W:World}{h x:Sl}{f:Int} (g:EgS w wr h x f W):EgS w wr h x f W.drew:=g.step (Below.refl _ W).drew
theorem EgS.al {w wr W:World}{h x:Sl}{f:Int} (g:EgS w wr h x f W) (o:Obj):EgS w wr h x f (W.alloc o):=g.step (bel1 W o)
theorem EgS.put {w wr W:World}{h x:Sl}{f:Int} (g:EgS w wr h x f W){b j:Nat} (hb:wr.heap.size<=b) (u:Value):EgS w wr h x f (W.setCell ⟨b,j,none⟩ u) :=
 ⟨g.one.of fun k=>by
  show (W.setCell ⟨b,j,none⟩ u).cell? ⟨w.heap.size,k,none⟩=_
  exact World.cell?_of_block (a:=⟨w.heap.size,k,none⟩) (Below.heap_setCell _ _ _ _ (by have:=g.lo;show w.heap.size≠b;omega)),g.bel.setCell (by show _<=b;exact hb) u,g.lo⟩
theorem EgS.self {w wr W:World}{h x:Sl}{f:Int} (g:EgS w wr h x f W):EgS w wr h x f W:=g
end Go.Proofs.YtbakjaliponbbaaGreatDoor
