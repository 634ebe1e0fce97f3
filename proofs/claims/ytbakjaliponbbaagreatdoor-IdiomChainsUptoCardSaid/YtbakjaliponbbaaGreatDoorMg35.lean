/- The walk of idiom.longer. Printed by .. Conditions: as each theorem says. -/
import Derived.Test.YtbakjaliponbbaaGreatDoorMg25
import Derived.Test.YtbakjaliponbbaaGreatDoorMg34
set_option maxRecDepth 100000
set_option maxHeartbeats 4000000
namespace Go.Proofs.YtbakjaliponbbaaGreatDoor
open Go Go.RowKit Go.Proofs Fl
structure ChX (w W:World) (f g:Int) (h:Sl) (p:V8):Prop where
 ph:BoxT w W [.int .i64 1,.int .i32 f,.int .i32 g]
 arr:At9 W (w.heap.size+1) 0 h p
 res:W.heap[w.heap.size+2]?=some zeroO
theorem ChX.bel {w W:World}{f g:Int}{h:Sl}{p:V8} (s:ChX w W f g h p):Below w.heap.size w W:=s.ph.2.1
theorem ChX.step {w W W':World}{f g:Int}{h:Sl}{p:V8} (s:ChX w W f g h p) (hb:Below W.heap.size W W'):ChX w W' f g h p:=⟨s.ph.step hb,s.arr.below hb,by rw [hb.block _ (lt_blk s.res)];exact s.res⟩
theorem ChX.new (w:World) (f g:Int) (h:Sl) (p:V8):ChX w (((w.alloc (.cells #[.int .i64 1,.int .i32 f,.int .i32 g] 63)).alloc (arrO h p)).alloc zeroO) f g h p:=by
 have h1:=heap_alloc_new ((w.alloc (.cells #[.int .i64 1,.int .i32 f,.int .i32 g] 63)).alloc (arrO h p)) zeroO
 rw [show ((w.alloc (.cells #[.int .i64 1,.int .i32 f,.int .i32 g] 63)).alloc (arrO h p)).heap.size=w.heap.size+2 by simp] at h1
 have h2:=at9_new (w.alloc (.cells #[.int .i64 1,.int .i32 f,.int .i32 g] 63)) h p
 rw [show (w.alloc (.cells #[.int .i64 1,.int .i32 f,.int .i32 g] 63)).heap.size=w.heap.size+1 by simp] at h2
 exact ⟨((boxedT w [.int .i64 1,.int .i32 f,.int .i32 g] 63).step (bel1 _ _)).step (bel1 _ _),h2.below (bel1 _ _),h1⟩
theorem hole2 {Ha:Nat->Prop}{w W:World}{f g:Int}{h:Sl}{p:V8} (hH:∀ b,Ha b->b < w.heap.size) (s:ChX w W f g h p) (b:Nat) (e:Ha b\/b=w.heap.size+2):b < W.heap.size:=by
 have h1:=lt_blk s.res
 rcases e with e | e
 ·have:=hH b e;omega
 ·omega
def OaR (H:Nat->Prop) (w:World) (r:Option PA) (e:Ending) (w':World):Prop :=
 match r with
 | some a=>∃ h p,e= .returned (.tuple #[arrV h p,.bool true])/\AV H w' a h p/\Below w.heap.size w w'
 | none=>e= .returned (.tuple #[arrV nilS zeroP,.bool false])/\Below w.heap.size w w'
theorem oaR_no {H:Nat->Prop}{w w':World} (hb:Below w.heap.size w w'):OaR H w none (.returned (.tuple #[arrV nilS zeroP,.bool false])) w':=⟨rfl,hb⟩
theorem oaR_yes {H:Nat->Prop}{w w':World}{a:PA}{h:Sl}{p:V8} (g:AV H w' a h p) (hb:Below w.heap.size w w'):OaR H w (some a) (.returned (.tuple #[arrV h p,.bool true])) w':=⟨h,p,rfl,g,hb⟩
theorem longer_0 {Ha:Nat->Prop}{a:PA}{h:Sl}{p:V8} (w:World) (g:AV Ha w a h p) (hHa:∀ b,Ha b->b < w.heap.size) (hn:0 < a.len) (hl:a.len<=1000000) (o most:Nat) :
  Calls Tryz.prog 98 #[.agg #[.int .i64 1,.int .i32 8835,.int .i32 9021],arrV h p,.int .i64 (o:Int),.int .i64 (most:Int)] w (OaR Ha w none):=by
 have HS0:=Lib.hid (ChX.new w 8835 9021 h p)
 have HT:=Lib.hid (fun W (hb:Below w.heap.size w W)=>ltruths_any g hn hl W hb)
 unfold TaR at HT
 have HH:=Lib.hid hHa
 have hrk:h.2.1=a.shape.length:=g.shape.len
 clear hrk hHa g hn hl
 go_enter Tryz.func98,Tryz.ntmps98
 obtain ⟨h0,h1,h2,h3,h4,h5,h6,h7,h8⟩:=HS0.out.arr.c
 obtain ⟨c0,c1,c2⟩:_/\_/\_:=⟨HS0.out.ph.1 0,HS0.out.ph.1 1,HS0.out.ph.1 2⟩
 go_wp2_with fail
 refine (HT.out _ HS0.out.bel).mono ?_
 rintro e w2 ⟨b,bn,rfl,hbi,hb⟩
 have HS2:=Lib.hid ((HS0.out.step hb).step (bel1 w2 (.cells #[.slice b.1 b.2.1 b.2.2,.int .i64 bn] 52)))
 have HX2:=Lib.hid (heap_alloc_new w2 (.cells #[.slice b.1 b.2.1 b.2.2,.int .i64 bn] 52))
 have HBI:=Lib.hid (fun e=>(hbi e).below (bel1 w2 (.cells #[.slice b.1 b.2.1 b.2.2,.int .i64 bn] 52)))
 clear hb hbi HT HS0 h0 h1 h2 h3 h4 h5 h6 h7 h8 c0 c1 c2
 obtain ⟨h0,h1,h2,h3,h4,h5,h6,h7,h8⟩:=HS2.out.arr.c
 obtain ⟨c0,c1,c2⟩:_/\_/\_:=⟨HS2.out.ph.1 0,HS2.out.ph.1 1,HS2.out.ph.1 2⟩
 clear HBI HX2
 have HBE:=Lib.hid (below_set9 HS2.out.bel (show w.heap.size<=w.heap.size+2 by omega) (.slice none 0 0) (.int .i64 0) (.slice none 0 0) (.int .i64 0) (.slice none 0 0) (.slice none 0 0) (.slice none 0 0) (.slice none 0 0) (.slice none 0 0))
 have HRE:=Lib.hid (set9_block HS2.out.res (.slice none 0 0) (.int .i64 0) (.slice none 0 0) (.int .i64 0) (.slice none 0 0) (.slice none 0 0) (.slice none 0 0) (.slice none 0 0) (.slice none 0 0))
 obtain ⟨⟨y0,y1,y2,y3,y4,y5,y6,y7,y8⟩,yz⟩:=zero_block HS2.out.res
 go_wp2
 refine bodyPost_ret (v := .tuple #[arrV nilS zeroP,.bool false]) ?_ rfl (oaR_no HBE.out)
 exact ret_arr2 (fn:=Tryz.f98) (p:=8) (u:=9) rfl _ _ (w.heap.size+2) (by rfl) HRE.out
theorem longer_1 {Ha:Nat->Prop}{a:PA}{h:Sl}{p:V8} (w:World) (g:AV Ha w a h p) (hHa:∀ b,Ha b->b < w.heap.size) (hn:0 < a.len) (hl:a.len<=1000000) (o most:Nat) :
  Calls Tryz.prog 98 #[.agg #[.int .i64 1,.int .i32 8835,.int .i32 9076],arrV h p,.int .i64 (o:Int),.int .i64 (most:Int)] w (OaR Ha w none):=by
 have HS0:=Lib.hid (ChX.new w 8835 9076 h p)
 have HT:=Lib.hid (fun W (hb:Below w.heap.size w W)=>ltruths_any g hn hl W hb)
 unfold TaR at HT
 have HH:=Lib.hid hHa
 have hrk:h.2.1=a.shape.length:=g.shape.len
 clear hrk hHa g hn hl
 go_enter Tryz.func98,Tryz.ntmps98
 obtain ⟨h0,h1,h2,h3,h4,h5,h6,h7,h8⟩:=HS0.out.arr.c
 obtain ⟨c0,c1,c2⟩:_/\_/\_:=⟨HS0.out.ph.1 0,HS0.out.ph.1 1,HS0.out.ph.1 2⟩
 go_wp2_with fail
 refine (HT.out _ HS0.out.bel).mono ?_
 rintro e w2 ⟨b,bn,rfl,hbi,hb⟩
 have HS2:=Lib.hid ((HS0.out.step hb).step (bel1 w2 (.cells #[.slice b.1 b.2.1 b.2.2,.int .i64 bn] 52)))
 have HX2:=Lib.hid (heap_alloc_new w2 (.cells #[.slice b.1 b.2.1 b.2.2,.int .i64 bn] 52))
 have HBI:=Lib.hid (fun e=>(hbi e).below (bel1 w2 (.cells #[.slice b.1 b.2.1 b.2.2,.int .i64 bn] 52)))
 clear hb hbi HT HS0 h0 h1 h2 h3 h4 h5 h6 h7 h8 c0 c1 c2
 obtain ⟨h0,h1,h2,h3,h4,h5,h6,h7,h8⟩:=HS2.out.arr.c
 obtain ⟨c0,c1,c2⟩:_/\_/\_:=⟨HS2.out.ph.1 0,HS2.out.ph.1 1,HS2.out.ph.1 2⟩
 clear HBI HX2
 have HBE:=Lib.hid (below_set9 HS2.out.bel (show w.heap.size<=w.heap.size+2 by omega) (.slice none 0 0) (.int .i64 0) (.slice none 0 0) (.int .i64 0) (.slice none 0 0) (.slice none 0 0) (.slice none 0 0) (.slice none 0 0) (.slice none 0 0))
 have HRE:=Lib.hid (set9_block HS2.out.res (.slice none 0 0) (.int .i64 0) (.slice none 0 0) (.int .i64 0) (.slice none 0 0) (.slice none 0 0) (.slice none 0 0) (.slice none 0 0) (.slice none 0 0))
 obtain ⟨⟨y0,y1,y2,y3,y4,y5,y6,y7,y8⟩,yz⟩:=zero_block HS2.out.res
 go_wp2
 refine bodyPost_ret (v := .tuple #[arrV nilS zeroP,.bool false]) ?_ rfl (oaR_no HBE.out)
 exact ret_arr2 (fn:=Tryz.f98) (p:=8) (u:=9) rfl _ _ (w.heap.size+2) (by rfl) HRE.out
theorem longer_5 {Ha:Nat->Prop}{a:PA}{h:Sl}{p:V8} (w:World) (g:AV Ha w a h p) (hHa:∀ b,Ha b->b < w.heap.size) (hn:0 < a.len) (hl:a.len<=1000000) (o most:Nat) :
  Calls Tryz.prog 98 #[.agg #[.int .i64 1,.int .i32 8802,.int .i32 8746],arrV h p,.int .i64 (o:Int),.int .i64 (most:Int)] w (OaR Ha w none):=by
 have HS0:=Lib.hid (ChX.new w 8802 8746 h p)
 have HT:=Lib.hid (fun W (hb:Below w.heap.size w W)=>ltruths_any g hn hl W hb)
 unfold TaR at HT
 have HH:=Lib.hid hHa
 have hrk:h.2.1=a.shape.length:=g.shape.len
 clear hrk hHa g hn hl
 go_enter Tryz.func98,Tryz.ntmps98
 obtain ⟨h0,h1,h2,h3,h4,h5,h6,h7,h8⟩:=HS0.out.arr.c
 obtain ⟨c0,c1,c2⟩:_/\_/\_:=⟨HS0.out.ph.1 0,HS0.out.ph.1 1,HS0.out.ph.1 2⟩
 go_wp2_with fail
 refine (HT.out _ HS0.out.bel).mono ?_
 rintro e w2 ⟨b,bn,rfl,hbi,hb⟩
 have HS2:=Lib.hid ((HS0.out.step hb).step (bel1 w2 (.cells #[.slice b.1 b.2.1 b.2.2,.int .i64 bn] 52)))
 have HX2:=Lib.hid (heap_alloc_new w2 (.cells #[.slice b.1 b.2.1 b.2.2,.int .i64 bn] 52))
 have HBI:=Lib.hid (fun e=>(hbi e).below (bel1 w2 (.cells #[.slice b.1 b.2.1 b.2.2,.int .i64 bn] 52)))
 clear hb hbi HT HS0 h0 h1 h2 h3 h4 h5 h6 h7 h8 c0 c1 c2
 obtain ⟨h0,h1,h2,h3,h4,h5,h6,h7,h8⟩:=HS2.out.arr.c
 obtain ⟨c0,c1,c2⟩:_/\_/\_:=⟨HS2.out.ph.1 0,HS2.out.ph.1 1,HS2.out.ph.1 2⟩
 clear HBI HX2
 have HBE:=Lib.hid (below_set9 HS2.out.bel (show w.heap.size<=w.heap.size+2 by omega) (.slice none 0 0) (.int .i64 0) (.slice none 0 0) (.int .i64 0) (.slice none 0 0) (.slice none 0 0) (.slice none 0 0) (.slice none 0 0) (.slice none 0 0))
 have HRE:=Lib.hid (set9_block HS2.out.res (.slice none 0 0) (.int .i64 0) (.slice none 0 0) (.int .i64 0) (.slice none 0 0) (.slice none 0 0) (.slice none 0 0) (.slice none 0 0) (.slice none 0 0))
 obtain ⟨⟨y0,y1,y2,y3,y4,y5,y6,y7,y8⟩,yz⟩:=zero_block HS2.out.res
 go_wp2
 refine bodyPost_ret (v := .tuple #[arrV nilS zeroP,.bool false]) ?_ rfl (oaR_no HBE.out)
 exact ret_arr2 (fn:=Tryz.f98) (p:=8) (u:=9) rfl _ _ (w.heap.size+2) (by rfl) HRE.out
theorem longer_7 {Ha:Nat->Prop}{a:PA}{h:Sl}{p:V8} (w:World) (g:AV Ha w a h p) (hHa:∀ b,Ha b->b < w.heap.size) (hn:0 < a.len) (hl:a.len<=1000000) (o most:Nat) :
  Calls Tryz.prog 98 #[.agg #[.int .i64 1,.int .i32 8802,.int .i32 9076],arrV h p,.int .i64 (o:Int),.int .i64 (most:Int)] w (OaR Ha w none):=by
 have HS0:=Lib.hid (ChX.new w 8802 9076 h p)
 have HT:=Lib.hid (fun W (hb:Below w.heap.size w W)=>ltruths_any g hn hl W hb)
 unfold TaR at HT
 have HH:=Lib.hid hHa
 have hrk:h.2.1=a.shape.length:=g.shape.len
 clear hrk hHa g hn hl
 go_enter Tryz.func98,Tryz.ntmps98
 obtain ⟨h0,h1,h2,h3,h4,h5,h6,h7,h8⟩:=HS0.out.arr.c
 obtain ⟨c0,c1,c2⟩:_/\_/\_:=⟨HS0.out.ph.1 0,HS0.out.ph.1 1,HS0.out.ph.1 2⟩
 go_wp2_with fail
 refine (HT.out _ HS0.out.bel).mono ?_
 rintro e w2 ⟨b,bn,rfl,hbi,hb⟩
 have HS2:=Lib.hid ((HS0.out.step hb).step (bel1 w2 (.cells #[.slice b.1 b.2.1 b.2.2,.int .i64 bn] 52)))
 have HX2:=Lib.hid (heap_alloc_new w2 (.cells #[.slice b.1 b.2.1 b.2.2,.int .i64 bn] 52))
 have HBI:=Lib.hid (fun e=>(hbi e).below (bel1 w2 (.cells #[.slice b.1 b.2.1 b.2.2,.int .i64 bn] 52)))
 clear hb hbi HT HS0 h0 h1 h2 h3 h4 h5 h6 h7 h8 c0 c1 c2
 obtain ⟨h0,h1,h2,h3,h4,h5,h6,h7,h8⟩:=HS2.out.arr.c
 obtain ⟨c0,c1,c2⟩:_/\_/\_:=⟨HS2.out.ph.1 0,HS2.out.ph.1 1,HS2.out.ph.1 2⟩
 clear HBI HX2
 have HBE:=Lib.hid (below_set9 HS2.out.bel (show w.heap.size<=w.heap.size+2 by omega) (.slice none 0 0) (.int .i64 0) (.slice none 0 0) (.int .i64 0) (.slice none 0 0) (.slice none 0 0) (.slice none 0 0) (.slice none 0 0) (.slice none 0 0))
 have HRE:=Lib.hid (set9_block HS2.out.res (.slice none 0 0) (.int .i64 0) (.slice none 0 0) (.int .i64 0) (.slice none 0 0) (.slice none 0 0) (.slice none 0 0) (.slice none 0 0) (.slice none 0 0))
 obtain ⟨⟨y0,y1,y2,y3,y4,y5,y6,y7,y8⟩,yz⟩:=zero_block HS2.out.res
 go_wp2
 refine bodyPost_ret (v := .tuple #[arrV nilS zeroP,.bool false]) ?_ rfl (oaR_no HBE.out)
 exact ret_arr2 (fn:=Tryz.f98) (p:=8) (u:=9) rfl _ _ (w.heap.size+2) (by rfl) HRE.out
theorem longer_8 {Ha:Nat->Prop}{a:PA}{h:Sl}{p:V8} (w:World) (g:AV Ha w a h p) (hHa:∀ b,Ha b->b < w.heap.size) (hn:0 < a.len) (hl:a.len<=1000000) (o most:Nat) :
  Calls Tryz.prog 98 #[.agg #[.int .i64 1,.int .i32 9076,.int .i32 9076],arrV h p,.int .i64 (o:Int),.int .i64 (most:Int)] w (OaR Ha w none):=by
 have HS0:=Lib.hid (ChX.new w 9076 9076 h p)
 have HT:=Lib.hid (fun W (hb:Below w.heap.size w W)=>ltruths_any g hn hl W hb)
 unfold TaR at HT
 have HH:=Lib.hid hHa
 have hrk:h.2.1=a.shape.length:=g.shape.len
 clear hrk hHa g hn hl
 go_enter Tryz.func98,Tryz.ntmps98
 obtain ⟨h0,h1,h2,h3,h4,h5,h6,h7,h8⟩:=HS0.out.arr.c
 obtain ⟨c0,c1,c2⟩:_/\_/\_:=⟨HS0.out.ph.1 0,HS0.out.ph.1 1,HS0.out.ph.1 2⟩
 go_wp2_with fail
 refine (HT.out _ HS0.out.bel).mono ?_
 rintro e w2 ⟨b,bn,rfl,hbi,hb⟩
 have HS2:=Lib.hid ((HS0.out.step hb).step (bel1 w2 (.cells #[.slice b.1 b.2.1 b.2.2,.int .i64 bn] 52)))
 have HX2:=Lib.hid (heap_alloc_new w2 (.cells #[.slice b.1 b.2.1 b.2.2,.int .i64 bn] 52))
 have HBI:=Lib.hid (fun e=>(hbi e).below (bel1 w2 (.cells #[.slice b.1 b.2.1 b.2.2,.int .i64 bn] 52)))
 clear hb hbi HT HS0 h0 h1 h2 h3 h4 h5 h6 h7 h8 c0 c1 c2
 obtain ⟨h0,h1,h2,h3,h4,h5,h6,h7,h8⟩:=HS2.out.arr.c
 obtain ⟨c0,c1,c2⟩:_/\_/\_:=⟨HS2.out.ph.1 0,HS2.out.ph.1 1,HS2.out.ph.1 2⟩
 clear HBI HX2
 have HBE:=Lib.hid (below_set9 HS2.out.bel (show w.heap.size<=w.heap.size+2 by omega) (.slice none 0 0) (.int .i64 0) (.slice none 0 0) (.int .i64 0) (.slice none 0 0) (.slice none 0 0) (.slice none 0 0) (.slice none 0 0) (.slice none 0 0))
 have HRE:=Lib.hid (set9_block HS2.out.res (.slice none 0 0) (.int .i64 0) (.slice none 0 0) (.int .i64 0) (.slice none 0 0) (.slice none 0 0) (.slice none 0 0) (.slice none 0 0) (.slice none 0 0))
 obtain ⟨⟨y0,y1,y2,y3,y4,y5,y6,y7,y8⟩,yz⟩:=zero_block HS2.out.res
 go_wp2
 refine bodyPost_ret (v := .tuple #[arrV nilS zeroP,.bool false]) ?_ rfl (oaR_no HBE.out)
 exact ret_arr2 (fn:=Tryz.f98) (p:=8) (u:=9) rfl _ _ (w.heap.size+2) (by rfl) HRE.out
theorem longer_6_rank {Ha:Nat->Prop}{a:PA}{h:Sl}{p:V8} (w:World) (g:AV Ha w a h p) (hHa:∀ b,Ha b->b < w.heap.size) (hn:0 < a.len) (hl:a.len<=1000000) (o most:Nat) (hr:¬ a.shape.length=1) :
  Calls Tryz.prog 98 #[.agg #[.int .i64 1,.int .i32 8802,.int .i32 9080],arrV h p,.int .i64 (o:Int),.int .i64 (most:Int)] w (OaR Ha w none):=by
 have HS0:=Lib.hid (ChX.new w 8802 9080 h p)
 have HT:=Lib.hid (fun W (hb:Below w.heap.size w W)=>ltruths_any g hn hl W hb)
 unfold TaR at HT
 have HH:=Lib.hid hHa
 have hrk:h.2.1=a.shape.length:=g.shape.len
 have hr1:((h.2.1:Int)==1)=false:=by rw [hrk];exact beq_eq_false_iff_ne.2 (by omega)
 clear hrk hHa g hn hl hr
 go_enter Tryz.func98,Tryz.ntmps98
 obtain ⟨h0,h1,h2,h3,h4,h5,h6,h7,h8⟩:=HS0.out.arr.c
 obtain ⟨c0,c1,c2⟩:_/\_/\_:=⟨HS0.out.ph.1 0,HS0.out.ph.1 1,HS0.out.ph.1 2⟩
 go_wp2_with fail
 refine (HT.out _ HS0.out.bel).mono ?_
 rintro e w2 ⟨b,bn,rfl,hbi,hb⟩
 have HS2:=Lib.hid ((HS0.out.step hb).step (bel1 w2 (.cells #[.slice b.1 b.2.1 b.2.2,.int .i64 bn] 52)))
 have HX2:=Lib.hid (heap_alloc_new w2 (.cells #[.slice b.1 b.2.1 b.2.2,.int .i64 bn] 52))
 have HBI:=Lib.hid (fun e=>(hbi e).below (bel1 w2 (.cells #[.slice b.1 b.2.1 b.2.2,.int .i64 bn] 52)))
 clear hb hbi HT HS0 h0 h1 h2 h3 h4 h5 h6 h7 h8 c0 c1 c2
 obtain ⟨h0,h1,h2,h3,h4,h5,h6,h7,h8⟩:=HS2.out.arr.c
 obtain ⟨c0,c1,c2⟩:_/\_/\_:=⟨HS2.out.ph.1 0,HS2.out.ph.1 1,HS2.out.ph.1 2⟩
 clear HBI HX2
 have HBE:=Lib.hid (below_set9 HS2.out.bel (show w.heap.size<=w.heap.size+2 by omega) (.slice none 0 0) (.int .i64 0) (.slice none 0 0) (.int .i64 0) (.slice none 0 0) (.slice none 0 0) (.slice none 0 0) (.slice none 0 0) (.slice none 0 0))
 have HRE:=Lib.hid (set9_block HS2.out.res (.slice none 0 0) (.int .i64 0) (.slice none 0 0) (.int .i64 0) (.slice none 0 0) (.slice none 0 0) (.slice none 0 0) (.slice none 0 0) (.slice none 0 0))
 obtain ⟨⟨y0,y1,y2,y3,y4,y5,y6,y7,y8⟩,yz⟩:=zero_block HS2.out.res
 go_wp2
 refine bodyPost_ret (v := .tuple #[arrV nilS zeroP,.bool false]) ?_ rfl (oaR_no HBE.out)
 exact ret_arr2 (fn:=Tryz.f98) (p:=8) (u:=9) rfl _ _ (w.heap.size+2) (by rfl) HRE.out
theorem longer_6_bad {Ha:Nat->Prop}{a:PA}{h:Sl}{p:V8} (w:World) (g:AV Ha w a h p) (hHa:∀ b,Ha b->b < w.heap.size) (hn:0 < a.len) (hl:a.len<=1000000) (o most:Nat) (hr:a.shape.length=1) (ht:tsA a=false) :
  Calls Tryz.prog 98 #[.agg #[.int .i64 1,.int .i32 8802,.int .i32 9080],arrV h p,.int .i64 (o:Int),.int .i64 (most:Int)] w (OaR Ha w none):=by
 have HS0:=Lib.hid (ChX.new w 8802 9080 h p)
 have HT:=Lib.hid (fun W (hb:Below w.heap.size w W)=>ltruths_any g hn hl W hb)
 unfold TaR at HT
 have HH:=Lib.hid hHa
 have hrk:h.2.1=a.shape.length:=g.shape.len
 have hr1:((h.2.1:Int)==1)=true:=by rw [hrk,hr];rfl
 rw [ht] at HT
 clear hrk hHa g hn hl hr ht
 go_enter Tryz.func98,Tryz.ntmps98
 obtain ⟨h0,h1,h2,h3,h4,h5,h6,h7,h8⟩:=HS0.out.arr.c
 obtain ⟨c0,c1,c2⟩:_/\_/\_:=⟨HS0.out.ph.1 0,HS0.out.ph.1 1,HS0.out.ph.1 2⟩
 go_wp2_with fail
 refine (HT.out _ HS0.out.bel).mono ?_
 rintro e w2 ⟨b,bn,rfl,hbi,hb⟩
 have HS2:=Lib.hid ((HS0.out.step hb).step (bel1 w2 (.cells #[.slice b.1 b.2.1 b.2.2,.int .i64 bn] 52)))
 have HX2:=Lib.hid (heap_alloc_new w2 (.cells #[.slice b.1 b.2.1 b.2.2,.int .i64 bn] 52))
 have HBI:=Lib.hid (fun e=>(hbi e).below (bel1 w2 (.cells #[.slice b.1 b.2.1 b.2.2,.int .i64 bn] 52)))
 clear hb hbi HT HS0 h0 h1 h2 h3 h4 h5 h6 h7 h8 c0 c1 c2
 obtain ⟨h0,h1,h2,h3,h4,h5,h6,h7,h8⟩:=HS2.out.arr.c
 obtain ⟨c0,c1,c2⟩:_/\_/\_:=⟨HS2.out.ph.1 0,HS2.out.ph.1 1,HS2.out.ph.1 2⟩
 clear HBI HX2
 have HBE:=Lib.hid (below_set9 HS2.out.bel (show w.heap.size<=w.heap.size+2 by omega) (.slice none 0 0) (.int .i64 0) (.slice none 0 0) (.int .i64 0) (.slice none 0 0) (.slice none 0 0) (.slice none 0 0) (.slice none 0 0) (.slice none 0 0))
 have HRE:=Lib.hid (set9_block HS2.out.res (.slice none 0 0) (.int .i64 0) (.slice none 0 0) (.int .i64 0) (.slice none 0 0) (.slice none 0 0) (.slice none 0 0) (.slice none 0 0) (.slice none 0 0))
 obtain ⟨⟨y0,y1,y2,y3,y4,y5,y6,y7,y8⟩,yz⟩:=zero_block HS2.out.res
 go_wp2
 refine bodyPost_ret (v := .tuple #[arrV nilS zeroP,.bool false]) ?_ rfl (oaR_no HBE.out)
 exact ret_arr2 (fn:=Tryz.f98) (p:=8) (u:=9) rfl _ _ (w.heap.size+2) (by rfl) HRE.out
theorem longer_4_rank {Ha:Nat->Prop}{a:PA}{h:Sl}{p:V8} (w:World) (g:AV Ha w a h p) (hHa:∀ b,Ha b->b < w.heap.size) (hn:0 < a.len) (hl:a.len<=1000000) (o most:Nat) (hr:¬ a.shape.length=1) :
  Calls Tryz.prog 98 #[.agg #[.int .i64 1,.int .i32 8835,.int .i32 9080],arrV h p,.int .i64 (o:Int),.int .i64 (most:Int)] w (OaR Ha w none):=by
 have HS0:=Lib.hid (ChX.new w 8835 9080 h p)
 have HT:=Lib.hid (fun W (hb:Below w.heap.size w W)=>ltruths_any g hn hl W hb)
 unfold TaR at HT
 have HH:=Lib.hid hHa
 have hrk:h.2.1=a.shape.length:=g.shape.len
 have hr1:((h.2.1:Int)==1)=false:=by rw [hrk];exact beq_eq_false_iff_ne.2 (by omega)
 clear hrk hHa g hn hl hr
 go_enter Tryz.func98,Tryz.ntmps98
 obtain ⟨h0,h1,h2,h3,h4,h5,h6,h7,h8⟩:=HS0.out.arr.c
 obtain ⟨c0,c1,c2⟩:_/\_/\_:=⟨HS0.out.ph.1 0,HS0.out.ph.1 1,HS0.out.ph.1 2⟩
 go_wp2_with fail
 refine (HT.out _ HS0.out.bel).mono ?_
 rintro e w2 ⟨b,bn,rfl,hbi,hb⟩
 have HS2:=Lib.hid ((HS0.out.step hb).step (bel1 w2 (.cells #[.slice b.1 b.2.1 b.2.2,.int .i64 bn] 52)))
 have HX2:=Lib.hid (heap_alloc_new w2 (.cells #[.slice b.1 b.2.1 b.2.2,.int .i64 bn] 52))
 have HBI:=Lib.hid (fun e=>(hbi e).below (bel1 w2 (.cells #[.slice b.1 b.2.1 b.2.2,.int .i64 bn] 52)))
 clear hb hbi HT HS0 h0 h1 h2 h3 h4 h5 h6 h7 h8 c0 c1 c2
 obtain ⟨h0,h1,h2,h3,h4,h5,h6,h7,h8⟩:=HS2.out.arr.c
 obtain ⟨c0,c1,c2⟩:_/\_/\_:=⟨HS2.out.ph.1 0,HS2.out.ph.1 1,HS2.out.ph.1 2⟩
 clear HBI HX2
 have HBE:=Lib.hid (below_set9 HS2.out.bel (show w.heap.size<=w.heap.size+2 by omega) (.slice none 0 0) (.int .i64 0) (.slice none 0 0) (.int .i64 0) (.slice none 0 0) (.slice none 0 0) (.slice none 0 0) (.slice none 0 0) (.slice none 0 0))
 have HRE:=Lib.hid (set9_block HS2.out.res (.slice none 0 0) (.int .i64 0) (.slice none 0 0) (.int .i64 0) (.slice none 0 0) (.slice none 0 0) (.slice none 0 0) (.slice none 0 0) (.slice none 0 0))
 obtain ⟨⟨y0,y1,y2,y3,y4,y5,y6,y7,y8⟩,yz⟩:=zero_block HS2.out.res
 go_wp2
 refine bodyPost_ret (v := .tuple #[arrV nilS zeroP,.bool false]) ?_ rfl (oaR_no HBE.out)
 exact ret_arr2 (fn:=Tryz.f98) (p:=8) (u:=9) rfl _ _ (w.heap.size+2) (by rfl) HRE.out
theorem longer_4_bad {Ha:Nat->Prop}{a:PA}{h:Sl}{p:V8} (w:World) (g:AV Ha w a h p) (hHa:∀ b,Ha b->b < w.heap.size) (hn:0 < a.len) (hl:a.len<=1000000) (o most:Nat) (hr:a.shape.length=1) (ht:tsA a=false) :
  Calls Tryz.prog 98 #[.agg #[.int .i64 1,.int .i32 8835,.int .i32 9080],arrV h p,.int .i64 (o:Int),.int .i64 (most:Int)] w (OaR Ha w none):=by
 have HS0:=Lib.hid (ChX.new w 8835 9080 h p)
 have HT:=Lib.hid (fun W (hb:Below w.heap.size w W)=>ltruths_any g hn hl W hb)
 unfold TaR at HT
 have HH:=Lib.hid hHa
 have hrk:h.2.1=a.shape.length:=g.shape.len
 have hr1:((h.2.1:Int)==1)=true:=by rw [hrk,hr];rfl
 rw [ht] at HT
 clear hrk hHa g hn hl hr ht
 go_enter Tryz.func98,Tryz.ntmps98
 obtain ⟨h0,h1,h2,h3,h4,h5,h6,h7,h8⟩:=HS0.out.arr.c
 obtain ⟨c0,c1,c2⟩:_/\_/\_:=⟨HS0.out.ph.1 0,HS0.out.ph.1 1,HS0.out.ph.1 2⟩
 go_wp2_with fail
 refine (HT.out _ HS0.out.bel).mono ?_
 rintro e w2 ⟨b,bn,rfl,hbi,hb⟩
 have HS2:=Lib.hid ((HS0.out.step hb).step (bel1 w2 (.cells #[.slice b.1 b.2.1 b.2.2,.int .i64 bn] 52)))
 have HX2:=Lib.hid (heap_alloc_new w2 (.cells #[.slice b.1 b.2.1 b.2.2,.int .i64 bn] 52))
 have HBI:=Lib.hid (fun e=>(hbi e).below (bel1 w2 (.cells #[.slice b.1 b.2.1 b.2.2,.int .i64 bn] 52)))
 clear hb hbi HT HS0 h0 h1 h2 h3 h4 h5 h6 h7 h8 c0 c1 c2
 obtain ⟨h0,h1,h2,h3,h4,h5,h6,h7,h8⟩:=HS2.out.arr.c
 obtain ⟨c0,c1,c2⟩:_/\_/\_:=⟨HS2.out.ph.1 0,HS2.out.ph.1 1,HS2.out.ph.1 2⟩
 clear HBI HX2
 have HBE:=Lib.hid (below_set9 HS2.out.bel (show w.heap.size<=w.heap.size+2 by omega) (.slice none 0 0) (.int .i64 0) (.slice none 0 0) (.int .i64 0) (.slice none 0 0) (.slice none 0 0) (.slice none 0 0) (.slice none 0 0) (.slice none 0 0))
 have HRE:=Lib.hid (set9_block HS2.out.res (.slice none 0 0) (.int .i64 0) (.slice none 0 0) (.int .i64 0) (.slice none 0 0) (.slice none 0 0) (.slice none 0 0) (.slice none 0 0) (.slice none 0 0))
 obtain ⟨⟨y0,y1,y2,y3,y4,y5,y6,y7,y8⟩,yz⟩:=zero_block HS2.out.res
 go_wp2
 refine bodyPost_ret (v := .tuple #[arrV nilS zeroP,.bool false]) ?_ rfl (oaR_no HBE.out)
 exact ret_arr2 (fn:=Tryz.f98) (p:=8) (u:=9) rfl _ _ (w.heap.size+2) (by rfl) HRE.out
theorem longer_6_ok {Ha:Nat->Prop}{a:PA}{h:Sl}{p:V8} (w:World) (g:AV Ha w a h p) (hHa:∀ b,Ha b->b < w.heap.size) (hn:0 < a.len) (hl:a.len<=1000000) (o most:Nat) (hr:a.shape.length=1) (ht:tsA a=true) :
  Calls Tryz.prog 98 #[.agg #[.int .i64 1,.int .i32 8802,.int .i32 9080],arrV h p,.int .i64 (o:Int),.int .i64 (most:Int)] w (OaR Ha w (some (oneA (cnt (bitsA a) a.len:Nat)))):=by
 have HS0:=Lib.hid (ChX.new w 8802 9080 h p)
 have HT:=Lib.hid (fun W (hb:Below w.heap.size w W)=>ltruths_any g hn hl W hb)
 unfold TaR at HT
 have HH:=Lib.hid hHa
 have hrk:h.2.1=a.shape.length:=g.shape.len
 have hr1:((h.2.1:Int)==1)=true:=by rw [hrk,hr];rfl
 rw [ht] at HT
 clear hrk hHa g hr ht
 go_enter Tryz.func98,Tryz.ntmps98
 obtain ⟨h0,h1,h2,h3,h4,h5,h6,h7,h8⟩:=HS0.out.arr.c
 obtain ⟨c0,c1,c2⟩:_/\_/\_:=⟨HS0.out.ph.1 0,HS0.out.ph.1 1,HS0.out.ph.1 2⟩
 go_wp2_with fail
 refine (HT.out _ HS0.out.bel).mono ?_
 rintro e w2 ⟨b,bn,rfl,hbi,hb⟩
 have HS2:=Lib.hid ((HS0.out.step hb).step (bel1 w2 (.cells #[.slice b.1 b.2.1 b.2.2,.int .i64 bn] 52)))
 have HX2:=Lib.hid (heap_alloc_new w2 (.cells #[.slice b.1 b.2.1 b.2.2,.int .i64 bn] 52))
 have HBI:=Lib.hid (fun e=>(hbi e).below (bel1 w2 (.cells #[.slice b.1 b.2.1 b.2.2,.int .i64 bn] 52)))
 clear hb hbi HT HS0 h0 h1 h2 h3 h4 h5 h6 h7 h8 c0 c1 c2
 obtain ⟨h0,h1,h2,h3,h4,h5,h6,h7,h8⟩:=HS2.out.arr.c
 obtain ⟨c0,c1,c2⟩:_/\_/\_:=⟨HS2.out.ph.1 0,HS2.out.ph.1 1,HS2.out.ph.1 2⟩
 obtain ⟨d0,d1,d2⟩:=pair_of HX2.out
 have HCN:=Lib.hid (fun W (hb:Below (w2.alloc (.cells #[.slice b.1 b.2.1 b.2.2,.int .i64 bn] 52)).heap.size (w2.alloc (.cells #[.slice b.1 b.2.1 b.2.2,.int .i64 bn] 52)) W)=>count_any _ a.len (bitsA a) W (by omega) ((HBI.out (by trivial)).below hb))
 go_wp2_with fail
 refine (HCN.out _ (Below.refl _ _)).mono ?_
 rintro e w3 ⟨rfl,hb⟩
 have HS3:=Lib.hid (HS2.out.step hb)
 have HX3:Hid (w3.heap[w2.heap.size]?=some (.cells #[.slice b.1 b.2.1 b.2.2,.int .i64 bn] 52)):=by unfold Hid;rw [hb.block _ (lt_blk HX2.out)];exact HX2.out
 have HBI3:=Lib.hid ((HBI.out (by trivial)).below hb)
 clear hb d0 d1 d2 HBI HX2 HCN HS2 h0 h1 h2 h3 h4 h5 h6 h7 h8 c0 c1 c2
 obtain ⟨h0,h1,h2,h3,h4,h5,h6,h7,h8⟩:=HS3.out.arr.c
 obtain ⟨c0,c1,c2⟩:_/\_/\_:=⟨HS3.out.ph.1 0,HS3.out.ph.1 1,HS3.out.ph.1 2⟩
 have HWH:=Lib.hid (whl_any (cnt (bitsA a) a.len:Nat) (by have:=cnt_le (bitsA a) a.len;constructor <;> omega) (fun b=>Ha b\/b=w.heap.size+2) _ (fun b e=>hole2 HH.out HS3.out b e))
 unfold AaR at HWH
 go_wp2_with fail
 refine HWH.out.mono ?_
 rintro e w5 ⟨h',p',rfl,hav,hb⟩
 clear HWH
 have HS5:=Lib.hid (HS3.out.step hb)
 have HAV:Hid (AV Ha (set9 w5 (w.heap.size+2) (sv h') (.int .i64 p'.k) (sv p'.b) (.int .i64 p'.bn) (sv p'.s) (sv p'.i) (sv p'.f) (sv p'.c) (sv p'.x)) (oneA (cnt (bitsA a) a.len:Nat)) h' p'):=AV.sub (fun b _ e => .inl e) (AV.lat (Lat.set9 (G:=w.heap.size+2) (.inr rfl) _ _ _ _ _ _ _ _ _) hav)
 clear hav hb h0 h1 h2 h3 h4 h5 h6 h7 h8 c0 c1 c2 HS3
 obtain ⟨⟨y0,y1,y2,y3,y4,y5,y6,y7,y8⟩,yz⟩:=zero_block HS5.out.res
 have HBE:=Lib.hid (below_set9 HS5.out.bel (show w.heap.size<=w.heap.size+2 by omega) (sv h') (.int .i64 p'.k) (sv p'.b) (.int .i64 p'.bn) (sv p'.s) (sv p'.i) (sv p'.f) (sv p'.c) (sv p'.x))
 have HRE:=Lib.hid (set9_block HS5.out.res (sv h') (.int .i64 p'.k) (sv p'.b) (.int .i64 p'.bn) (sv p'.s) (sv p'.i) (sv p'.f) (sv p'.c) (sv p'.x))
 go_wp2
 refine bodyPost_ret (v := .tuple #[arrV h' p',.bool true]) ?_ rfl (oaR_yes HAV.out HBE.out)
 exact ret_arr2 (fn:=Tryz.f98) (p:=8) (u:=9) rfl _ _ (w.heap.size+2) (by rfl) HRE.out
theorem longer_4_zero {Ha:Nat->Prop}{a:PA}{h:Sl}{p:V8} (w:World) (g:AV Ha w a h p) (hHa:∀ b,Ha b->b < w.heap.size) (hn:0 < a.len) (hl:a.len<=1000000) (o most:Nat) (hr:a.shape.length=1) (ht:tsA a=true) (hc:cnt (bitsA a) a.len=0) :
  Calls Tryz.prog 98 #[.agg #[.int .i64 1,.int .i32 8835,.int .i32 9080],arrV h p,.int .i64 (o:Int),.int .i64 (most:Int)] w (OaR Ha w none):=by
 have HS0:=Lib.hid (ChX.new w 8835 9080 h p)
 have HT:=Lib.hid (fun W (hb:Below w.heap.size w W)=>ltruths_any g hn hl W hb)
 unfold TaR at HT
 have HH:=Lib.hid hHa
 have hrk:h.2.1=a.shape.length:=g.shape.len
 have hr1:((h.2.1:Int)==1)=true:=by rw [hrk,hr];rfl
 rw [ht] at HT
 clear hrk hHa g hr ht
 go_enter Tryz.func98,Tryz.ntmps98
 obtain ⟨h0,h1,h2,h3,h4,h5,h6,h7,h8⟩:=HS0.out.arr.c
 obtain ⟨c0,c1,c2⟩:_/\_/\_:=⟨HS0.out.ph.1 0,HS0.out.ph.1 1,HS0.out.ph.1 2⟩
 go_wp2_with fail
 refine (HT.out _ HS0.out.bel).mono ?_
 rintro e w2 ⟨b,bn,rfl,hbi,hb⟩
 have HS2:=Lib.hid ((HS0.out.step hb).step (bel1 w2 (.cells #[.slice b.1 b.2.1 b.2.2,.int .i64 bn] 52)))
 have HX2:=Lib.hid (heap_alloc_new w2 (.cells #[.slice b.1 b.2.1 b.2.2,.int .i64 bn] 52))
 have HBI:=Lib.hid (fun e=>(hbi e).below (bel1 w2 (.cells #[.slice b.1 b.2.1 b.2.2,.int .i64 bn] 52)))
 clear hb hbi HT HS0 h0 h1 h2 h3 h4 h5 h6 h7 h8 c0 c1 c2
 obtain ⟨h0,h1,h2,h3,h4,h5,h6,h7,h8⟩:=HS2.out.arr.c
 obtain ⟨c0,c1,c2⟩:_/\_/\_:=⟨HS2.out.ph.1 0,HS2.out.ph.1 1,HS2.out.ph.1 2⟩
 obtain ⟨d0,d1,d2⟩:=pair_of HX2.out
 have HCN:=Lib.hid (fun W (hb:Below (w2.alloc (.cells #[.slice b.1 b.2.1 b.2.2,.int .i64 bn] 52)).heap.size (w2.alloc (.cells #[.slice b.1 b.2.1 b.2.2,.int .i64 bn] 52)) W)=>count_any _ a.len (bitsA a) W (by omega) ((HBI.out (by trivial)).below hb))
 rw [hc] at HCN
 clear hc
 go_wp2_with fail
 refine (HCN.out _ (Below.refl _ _)).mono ?_
 rintro e w3 ⟨rfl,hb⟩
 have HS3:=Lib.hid (HS2.out.step hb)
 have HX3:Hid (w3.heap[w2.heap.size]?=some (.cells #[.slice b.1 b.2.1 b.2.2,.int .i64 bn] 52)):=by unfold Hid;rw [hb.block _ (lt_blk HX2.out)];exact HX2.out
 have HBI3:=Lib.hid ((HBI.out (by trivial)).below hb)
 clear hb d0 d1 d2 HBI HX2 HCN HS2 h0 h1 h2 h3 h4 h5 h6 h7 h8 c0 c1 c2
 obtain ⟨h0,h1,h2,h3,h4,h5,h6,h7,h8⟩:=HS3.out.arr.c
 obtain ⟨c0,c1,c2⟩:_/\_/\_:=⟨HS3.out.ph.1 0,HS3.out.ph.1 1,HS3.out.ph.1 2⟩
 clear HX3 HBI3
 have HBE:=Lib.hid (below_set9 HS3.out.bel (show w.heap.size<=w.heap.size+2 by omega) (.slice none 0 0) (.int .i64 0) (.slice none 0 0) (.int .i64 0) (.slice none 0 0) (.slice none 0 0) (.slice none 0 0) (.slice none 0 0) (.slice none 0 0))
 have HRE:=Lib.hid (set9_block HS3.out.res (.slice none 0 0) (.int .i64 0) (.slice none 0 0) (.int .i64 0) (.slice none 0 0) (.slice none 0 0) (.slice none 0 0) (.slice none 0 0) (.slice none 0 0))
 obtain ⟨⟨y0,y1,y2,y3,y4,y5,y6,y7,y8⟩,yz⟩:=zero_block HS3.out.res
 go_wp2
 refine bodyPost_ret (v := .tuple #[arrV nilS zeroP,.bool false]) ?_ rfl (oaR_no HBE.out)
 exact ret_arr2 (fn:=Tryz.f98) (p:=8) (u:=9) rfl _ _ (w.heap.size+2) (by rfl) HRE.out
theorem longer_4_ok {Ha:Nat->Prop}{a:PA}{h:Sl}{p:V8} (w:World) (g:AV Ha w a h p) (hHa:∀ b,Ha b->b < w.heap.size) (hn:0 < a.len) (hl:a.len<=1000000) (o most:Nat) (tz:TzTab w) (ho:o<=1) (hr:a.shape.length=1) (ht:tsA a=true) (hc:0 < cnt (bitsA a) a.len) :
  Calls Tryz.prog 98 #[.agg #[.int .i64 1,.int .i32 8835,.int .i32 9080],arrV h p,.int .i64 (o:Int),.int .i64 (most:Int)] w (OaR Ha w (some (oneA ((firN (bitsA a) a.len:Nat)+(o:Nat))))):=by
 have HS0:=Lib.hid (ChX.new w 8835 9080 h p)
 have HT:=Lib.hid (fun W (hb:Below w.heap.size w W)=>ltruths_any g hn hl W hb)
 unfold TaR at HT
 have HH:=Lib.hid hHa
 have hrk:h.2.1=a.shape.length:=g.shape.len
 have hr1:((h.2.1:Int)==1)=true:=by rw [hrk,hr];rfl
 rw [ht] at HT
 have HTZ:=Lib.hid tz
 have hc2:((cnt (bitsA a) a.len:Nat):Int) > 0:=by omega
 clear hrk hHa g hr ht hc tz
 go_enter Tryz.func98,Tryz.ntmps98
 obtain ⟨h0,h1,h2,h3,h4,h5,h6,h7,h8⟩:=HS0.out.arr.c
 obtain ⟨c0,c1,c2⟩:_/\_/\_:=⟨HS0.out.ph.1 0,HS0.out.ph.1 1,HS0.out.ph.1 2⟩
 go_wp2_with fail
 refine (HT.out _ HS0.out.bel).mono ?_
 rintro e w2 ⟨b,bn,rfl,hbi,hb⟩
 have HS2:=Lib.hid ((HS0.out.step hb).step (bel1 w2 (.cells #[.slice b.1 b.2.1 b.2.2,.int .i64 bn] 52)))
 have HX2:=Lib.hid (heap_alloc_new w2 (.cells #[.slice b.1 b.2.1 b.2.2,.int .i64 bn] 52))
 have HBI:=Lib.hid (fun e=>(hbi e).below (bel1 w2 (.cells #[.slice b.1 b.2.1 b.2.2,.int .i64 bn] 52)))
 clear hb hbi HT HS0 h0 h1 h2 h3 h4 h5 h6 h7 h8 c0 c1 c2
 obtain ⟨h0,h1,h2,h3,h4,h5,h6,h7,h8⟩:=HS2.out.arr.c
 obtain ⟨c0,c1,c2⟩:_/\_/\_:=⟨HS2.out.ph.1 0,HS2.out.ph.1 1,HS2.out.ph.1 2⟩
 obtain ⟨d0,d1,d2⟩:=pair_of HX2.out
 have HCN:=Lib.hid (fun W (hb:Below (w2.alloc (.cells #[.slice b.1 b.2.1 b.2.2,.int .i64 bn] 52)).heap.size (w2.alloc (.cells #[.slice b.1 b.2.1 b.2.2,.int .i64 bn] 52)) W)=>count_any _ a.len (bitsA a) W (by omega) ((HBI.out (by trivial)).below hb))
 go_wp2_with fail
 refine (HCN.out _ (Below.refl _ _)).mono ?_
 rintro e w3 ⟨rfl,hb⟩
 have HS3:=Lib.hid (HS2.out.step hb)
 have HX3:Hid (w3.heap[w2.heap.size]?=some (.cells #[.slice b.1 b.2.1 b.2.2,.int .i64 bn] 52)):=by unfold Hid;rw [hb.block _ (lt_blk HX2.out)];exact HX2.out
 have HBI3:=Lib.hid ((HBI.out (by trivial)).below hb)
 clear hb d0 d1 d2 HBI HX2 HCN HS2 h0 h1 h2 h3 h4 h5 h6 h7 h8 c0 c1 c2
 obtain ⟨h0,h1,h2,h3,h4,h5,h6,h7,h8⟩:=HS3.out.arr.c
 obtain ⟨c0,c1,c2⟩:_/\_/\_:=⟨HS3.out.ph.1 0,HS3.out.ph.1 1,HS3.out.ph.1 2⟩
 obtain ⟨d0,d1,d2⟩:=pair_of HX3.out
 have HFI:=Lib.hid (first_any _ a.len (bitsA a) w3 (by omega) HBI3.out (TzTab.below HTZ.out HS3.out.bel))
 go_wp2_with fail
 refine HFI.out.mono ?_
 rintro e w4 ⟨z,rfl,hz,hb⟩
 have hzz:=firstIs_one hz (firN_is (bitsA a) a.len)
 subst hzz
 have HS4:=Lib.hid (HS3.out.step hb)
 clear hb hz d0 d1 d2 HBI3 HX3 HFI HS3 h0 h1 h2 h3 h4 h5 h6 h7 h8 c0 c1 c2
 have hz9:firN (bitsA a) a.len<=1000000:=by have:=(firN_is (bitsA a) a.len).1;omega
 generalize firN (bitsA a) a.len=z9 at *
 obtain ⟨h0,h1,h2,h3,h4,h5,h6,h7,h8⟩:=HS4.out.arr.c
 obtain ⟨c0,c1,c2⟩:_/\_/\_:=⟨HS4.out.ph.1 0,HS4.out.ph.1 1,HS4.out.ph.1 2⟩
 have HWH:=Lib.hid (whl_any ((z9:Int)+(o:Int)) (by constructor <;> omega) (fun b=>Ha b\/b=w.heap.size+2) _ (fun b e=>hole2 HH.out HS4.out b e))
 unfold AaR at HWH
 go_wp2_with fail
 refine HWH.out.mono ?_
 rintro e w5 ⟨h',p',rfl,hav,hb⟩
 clear HWH
 have HS5:=Lib.hid (HS4.out.step hb)
 have HAV:Hid (AV Ha (set9 w5 (w.heap.size+2) (sv h') (.int .i64 p'.k) (sv p'.b) (.int .i64 p'.bn) (sv p'.s) (sv p'.i) (sv p'.f) (sv p'.c) (sv p'.x)) (oneA ((z9:Int)+(o:Int))) h' p'):=AV.sub (fun b _ e => .inl e) (AV.lat (Lat.set9 (G:=w.heap.size+2) (.inr rfl) _ _ _ _ _ _ _ _ _) hav)
 clear hav hb h0 h1 h2 h3 h4 h5 h6 h7 h8 c0 c1 c2 HS4
 obtain ⟨⟨y0,y1,y2,y3,y4,y5,y6,y7,y8⟩,yz⟩:=zero_block HS5.out.res
 have HBE:=Lib.hid (below_set9 HS5.out.bel (show w.heap.size<=w.heap.size+2 by omega) (sv h') (.int .i64 p'.k) (sv p'.b) (.int .i64 p'.bn) (sv p'.s) (sv p'.i) (sv p'.f) (sv p'.c) (sv p'.x))
 have HRE:=Lib.hid (set9_block HS5.out.res (sv h') (.int .i64 p'.k) (sv p'.b) (.int .i64 p'.bn) (sv p'.s) (sv p'.i) (sv p'.f) (sv p'.c) (sv p'.x))
 go_wp2
 refine bodyPost_ret (v := .tuple #[arrV h' p',.bool true]) ?_ rfl (oaR_yes HAV.out HBE.out)
 exact ret_arr2 (fn:=Tryz.f98) (p:=8) (u:=9) rfl _ _ (w.heap.size+2) (by rfl) HRE.out
theorem longer_2_rank {Ha:Nat->Prop}{a:PA}{h:Sl}{p:V8} (w:World) (g:AV Ha w a h p) (hHa:∀ b,Ha b->b < w.heap.size) (hn:0 < a.len) (hl:a.len<=1000000) (o most:Nat) (hr:¬ a.shape.length=1) :
  Calls Tryz.prog 98 #[.agg #[.int .i64 1,.int .i32 8835,.int .i32 9035],arrV h p,.int .i64 (o:Int),.int .i64 (most:Int)] w (OaR Ha w none):=by
 have HS0:=Lib.hid (ChX.new w 8835 9035 h p)
 have HT:=Lib.hid (fun W (hb:Below w.heap.size w W)=>ltruths_any g hn hl W hb)
 unfold TaR at HT
 have HH:=Lib.hid hHa
 have hrk:h.2.1=a.shape.length:=g.shape.len
 have hr1:((h.2.1:Int)==1)=false:=by rw [hrk];exact beq_eq_false_iff_ne.2 (by omega)
 clear hrk hHa g hn hl hr
 go_enter Tryz.func98,Tryz.ntmps98
 obtain ⟨h0,h1,h2,h3,h4,h5,h6,h7,h8⟩:=HS0.out.arr.c
 obtain ⟨c0,c1,c2⟩:_/\_/\_:=⟨HS0.out.ph.1 0,HS0.out.ph.1 1,HS0.out.ph.1 2⟩
 go_wp2_with fail
 refine (HT.out _ HS0.out.bel).mono ?_
 rintro e w2 ⟨b,bn,rfl,hbi,hb⟩
 have HS2:=Lib.hid ((HS0.out.step hb).step (bel1 w2 (.cells #[.slice b.1 b.2.1 b.2.2,.int .i64 bn] 52)))
 have HX2:=Lib.hid (heap_alloc_new w2 (.cells #[.slice b.1 b.2.1 b.2.2,.int .i64 bn] 52))
 have HBI:=Lib.hid (fun e=>(hbi e).below (bel1 w2 (.cells #[.slice b.1 b.2.1 b.2.2,.int .i64 bn] 52)))
 clear hb hbi HT HS0 h0 h1 h2 h3 h4 h5 h6 h7 h8 c0 c1 c2
 obtain ⟨h0,h1,h2,h3,h4,h5,h6,h7,h8⟩:=HS2.out.arr.c
 obtain ⟨c0,c1,c2⟩:_/\_/\_:=⟨HS2.out.ph.1 0,HS2.out.ph.1 1,HS2.out.ph.1 2⟩
 clear HBI HX2
 have HBE:=Lib.hid (below_set9 HS2.out.bel (show w.heap.size<=w.heap.size+2 by omega) (.slice none 0 0) (.int .i64 0) (.slice none 0 0) (.int .i64 0) (.slice none 0 0) (.slice none 0 0) (.slice none 0 0) (.slice none 0 0) (.slice none 0 0))
 have HRE:=Lib.hid (set9_block HS2.out.res (.slice none 0 0) (.int .i64 0) (.slice none 0 0) (.int .i64 0) (.slice none 0 0) (.slice none 0 0) (.slice none 0 0) (.slice none 0 0) (.slice none 0 0))
 obtain ⟨⟨y0,y1,y2,y3,y4,y5,y6,y7,y8⟩,yz⟩:=zero_block HS2.out.res
 go_wp2
 refine bodyPost_ret (v := .tuple #[arrV nilS zeroP,.bool false]) ?_ rfl (oaR_no HBE.out)
 exact ret_arr2 (fn:=Tryz.f98) (p:=8) (u:=9) rfl _ _ (w.heap.size+2) (by rfl) HRE.out
theorem longer_2_box {Ha:Nat->Prop}{a:PA}{h:Sl}{p:V8} (w:World) (g:AV Ha w a h p) (hHa:∀ b,Ha b->b < w.heap.size) (hn:0 < a.len) (hl:a.len<=1000000) (o most:Nat) (hr:a.shape.length=1) (hf:a.fill=2) :
  Calls Tryz.prog 98 #[.agg #[.int .i64 1,.int .i32 8835,.int .i32 9035],arrV h p,.int .i64 (o:Int),.int .i64 (most:Int)] w (OaR Ha w none):=by
 have HS0:=Lib.hid (ChX.new w 8835 9035 h p)
 have HT:=Lib.hid (fun W (hb:Below w.heap.size w W)=>ltruths_any g hn hl W hb)
 unfold TaR at HT
 have HH:=Lib.hid hHa
 have hrk:h.2.1=a.shape.length:=g.shape.len
 have hr1:((h.2.1:Int)==1)=true:=by rw [hrk,hr];rfl
 have HCL:=Lib.hid (fun W (hb:Below w.heap.size w W)=>av_class g W hb)
 rw [hf] at HCL
 clear hrk hHa g hn hl hr hf
 go_enter Tryz.func98,Tryz.ntmps98
 obtain ⟨h0,h1,h2,h3,h4,h5,h6,h7,h8⟩:=HS0.out.arr.c
 obtain ⟨c0,c1,c2⟩:_/\_/\_:=⟨HS0.out.ph.1 0,HS0.out.ph.1 1,HS0.out.ph.1 2⟩
 go_wp2_with fail
 refine (HT.out _ HS0.out.bel).mono ?_
 rintro e w2 ⟨b,bn,rfl,hbi,hb⟩
 have HS2:=Lib.hid ((HS0.out.step hb).step (bel1 w2 (.cells #[.slice b.1 b.2.1 b.2.2,.int .i64 bn] 52)))
 have HX2:=Lib.hid (heap_alloc_new w2 (.cells #[.slice b.1 b.2.1 b.2.2,.int .i64 bn] 52))
 have HBI:=Lib.hid (fun e=>(hbi e).below (bel1 w2 (.cells #[.slice b.1 b.2.1 b.2.2,.int .i64 bn] 52)))
 clear hb hbi HT HS0 h0 h1 h2 h3 h4 h5 h6 h7 h8 c0 c1 c2
 obtain ⟨h0,h1,h2,h3,h4,h5,h6,h7,h8⟩:=HS2.out.arr.c
 obtain ⟨c0,c1,c2⟩:_/\_/\_:=⟨HS2.out.ph.1 0,HS2.out.ph.1 1,HS2.out.ph.1 2⟩
 clear HBI HX2
 go_wp2_with fail
 refine (HCL.out _ HS2.out.bel).mono ?_
 rintro e w3 ⟨rfl,hb⟩
 have HS3:=Lib.hid (HS2.out.step hb)
 clear hb HS2 h0 h1 h2 h3 h4 h5 h6 h7 h8 c0 c1 c2
 obtain ⟨h0,h1,h2,h3,h4,h5,h6,h7,h8⟩:=HS3.out.arr.c
 obtain ⟨c0,c1,c2⟩:_/\_/\_:=⟨HS3.out.ph.1 0,HS3.out.ph.1 1,HS3.out.ph.1 2⟩
 have HBE:=Lib.hid (below_set9 HS3.out.bel (show w.heap.size<=w.heap.size+2 by omega) (.slice none 0 0) (.int .i64 0) (.slice none 0 0) (.int .i64 0) (.slice none 0 0) (.slice none 0 0) (.slice none 0 0) (.slice none 0 0) (.slice none 0 0))
 have HRE:=Lib.hid (set9_block HS3.out.res (.slice none 0 0) (.int .i64 0) (.slice none 0 0) (.int .i64 0) (.slice none 0 0) (.slice none 0 0) (.slice none 0 0) (.slice none 0 0) (.slice none 0 0))
 obtain ⟨⟨y0,y1,y2,y3,y4,y5,y6,y7,y8⟩,yz⟩:=zero_block HS3.out.res
 go_wp2
 refine bodyPost_ret (v := .tuple #[arrV nilS zeroP,.bool false]) ?_ rfl (oaR_no HBE.out)
 exact ret_arr2 (fn:=Tryz.f98) (p:=8) (u:=9) rfl _ _ (w.heap.size+2) (by rfl) HRE.out
theorem longer_2_ok {Ha:Nat->Prop}{a:PA}{h:Sl}{p:V8} (w:World) (g:AV Ha w a h p) (hHa:∀ b,Ha b->b < w.heap.size) (hn:0 < a.len) (hl:a.len<=1000000) (o most:Nat) (d:Nat) (hgd:GoodA d a) (hca:ChA a) (ho:o<=1) (hr:a.shape.length=1) (hf:a.fill≠2) :
  Calls Tryz.prog 98 #[.agg #[.int .i64 1,.int .i32 8835,.int .i32 9035],arrV h p,.int .i64 (o:Int),.int .i64 (most:Int)] w (OaR Ha w (some (oneA ((extN (ltX (elA a) false) a.len:Nat)+(o:Nat))))):=by
 have HS0:=Lib.hid (ChX.new w 8835 9035 h p)
 have HT:=Lib.hid (fun W (hb:Below w.heap.size w W)=>ltruths_any g hn hl W hb)
 unfold TaR at HT
 have HH:=Lib.hid hHa
 have hrk:h.2.1=a.shape.length:=g.shape.len
 have hr1:((h.2.1:Int)==1)=true:=by rw [hrk,hr];rfl
 have HCL:=Lib.hid (fun W (hb:Below w.heap.size w W)=>av_class g W hb)
 have hf1:(((a.fill:Nat):Int) != 2)=true:=by simpa using fun h:(a.fill:Int)=2=>hf (by omega)
 clear hrk hHa hr
 go_enter Tryz.func98,Tryz.ntmps98
 obtain ⟨h0,h1,h2,h3,h4,h5,h6,h7,h8⟩:=HS0.out.arr.c
 obtain ⟨c0,c1,c2⟩:_/\_/\_:=⟨HS0.out.ph.1 0,HS0.out.ph.1 1,HS0.out.ph.1 2⟩
 go_wp2_with fail
 refine (HT.out _ HS0.out.bel).mono ?_
 rintro e w2 ⟨b,bn,rfl,hbi,hb⟩
 have HS2:=Lib.hid ((HS0.out.step hb).step (bel1 w2 (.cells #[.slice b.1 b.2.1 b.2.2,.int .i64 bn] 52)))
 have HX2:=Lib.hid (heap_alloc_new w2 (.cells #[.slice b.1 b.2.1 b.2.2,.int .i64 bn] 52))
 have HBI:=Lib.hid (fun e=>(hbi e).below (bel1 w2 (.cells #[.slice b.1 b.2.1 b.2.2,.int .i64 bn] 52)))
 clear hb hbi HT HS0 h0 h1 h2 h3 h4 h5 h6 h7 h8 c0 c1 c2
 obtain ⟨h0,h1,h2,h3,h4,h5,h6,h7,h8⟩:=HS2.out.arr.c
 obtain ⟨c0,c1,c2⟩:_/\_/\_:=⟨HS2.out.ph.1 0,HS2.out.ph.1 1,HS2.out.ph.1 2⟩
 clear HBI HX2
 go_wp2_with fail
 refine (HCL.out _ HS2.out.bel).mono ?_
 rintro e w3 ⟨rfl,hb⟩
 have HS3:=Lib.hid (HS2.out.step hb)
 clear hb HS2 h0 h1 h2 h3 h4 h5 h6 h7 h8 c0 c1 c2
 obtain ⟨h0,h1,h2,h3,h4,h5,h6,h7,h8⟩:=HS3.out.arr.c
 obtain ⟨c0,c1,c2⟩:_/\_/\_:=⟨HS3.out.ph.1 0,HS3.out.ph.1 1,HS3.out.ph.1 2⟩
 have HEX:=Lib.hid (extr_any _ (AV.step g HS3.out.bel) d hgd hca hf hl false)
 go_wp2_with fail
 refine HEX.out.mono ?_
 rintro e w4 ⟨rfl,hb⟩
 have HS4:=Lib.hid (HS3.out.step hb)
 clear hb HEX HS3 h0 h1 h2 h3 h4 h5 h6 h7 h8 c0 c1 c2
 have hz9:extN (ltX (elA a) false) a.len<=1000000:=by have:=extN_le (ltX (elA a) false) a.len;omega
 generalize extN (ltX (elA a) false) a.len=z9 at *
 obtain ⟨h0,h1,h2,h3,h4,h5,h6,h7,h8⟩:=HS4.out.arr.c
 obtain ⟨c0,c1,c2⟩:_/\_/\_:=⟨HS4.out.ph.1 0,HS4.out.ph.1 1,HS4.out.ph.1 2⟩
 have HWH:=Lib.hid (whl_any ((z9:Int)+(o:Int)) (by constructor <;> omega) (fun b=>Ha b\/b=w.heap.size+2) _ (fun b e=>hole2 HH.out HS4.out b e))
 unfold AaR at HWH
 go_wp2_with fail
 refine HWH.out.mono ?_
 rintro e w5 ⟨h',p',rfl,hav,hb⟩
 clear HWH
 have HS5:=Lib.hid (HS4.out.step hb)
 have HAV:Hid (AV Ha (set9 w5 (w.heap.size+2) (sv h') (.int .i64 p'.k) (sv p'.b) (.int .i64 p'.bn) (sv p'.s) (sv p'.i) (sv p'.f) (sv p'.c) (sv p'.x)) (oneA ((z9:Int)+(o:Int))) h' p'):=AV.sub (fun b _ e => .inl e) (AV.lat (Lat.set9 (G:=w.heap.size+2) (.inr rfl) _ _ _ _ _ _ _ _ _) hav)
 clear hav hb h0 h1 h2 h3 h4 h5 h6 h7 h8 c0 c1 c2 HS4
 obtain ⟨⟨y0,y1,y2,y3,y4,y5,y6,y7,y8⟩,yz⟩:=zero_block HS5.out.res
 have HBE:=Lib.hid (below_set9 HS5.out.bel (show w.heap.size<=w.heap.size+2 by omega) (sv h') (.int .i64 p'.k) (sv p'.b) (.int .i64 p'.bn) (sv p'.s) (sv p'.i) (sv p'.f) (sv p'.c) (sv p'.x))
 have HRE:=Lib.hid (set9_block HS5.out.res (sv h') (.int .i64 p'.k) (sv p'.b) (.int .i64 p'.bn) (sv p'.s) (sv p'.i) (sv p'.f) (sv p'.c) (sv p'.x))
 go_wp2
 refine bodyPost_ret (v := .tuple #[arrV h' p',.bool true]) ?_ rfl (oaR_yes HAV.out HBE.out)
 exact ret_arr2 (fn:=Tryz.f98) (p:=8) (u:=9) rfl _ _ (w.heap.size+2) (by rfl) HRE.out
theorem longer_3_rank {Ha:Nat->Prop}{a:PA}{h:Sl}{p:V8} (w:World) (g:AV Ha w a h p) (hHa:∀ b,Ha b->b < w.heap.size) (hn:0 < a.len) (hl:a.len<=1000000) (o most:Nat) (hr:¬ a.shape.length=1) :
  Calls Tryz.prog 98 #[.agg #[.int .i64 1,.int .i32 8835,.int .i32 9042],arrV h p,.int .i64 (o:Int),.int .i64 (most:Int)] w (OaR Ha w none):=by
 have HS0:=Lib.hid (ChX.new w 8835 9042 h p)
 have HT:=Lib.hid (fun W (hb:Below w.heap.size w W)=>ltruths_any g hn hl W hb)
 unfold TaR at HT
 have HH:=Lib.hid hHa
 have hrk:h.2.1=a.shape.length:=g.shape.len
 have hr1:((h.2.1:Int)==1)=false:=by rw [hrk];exact beq_eq_false_iff_ne.2 (by omega)
 clear hrk hHa g hn hl hr
 go_enter Tryz.func98,Tryz.ntmps98
 obtain ⟨h0,h1,h2,h3,h4,h5,h6,h7,h8⟩:=HS0.out.arr.c
 obtain ⟨c0,c1,c2⟩:_/\_/\_:=⟨HS0.out.ph.1 0,HS0.out.ph.1 1,HS0.out.ph.1 2⟩
 go_wp2_with fail
 refine (HT.out _ HS0.out.bel).mono ?_
 rintro e w2 ⟨b,bn,rfl,hbi,hb⟩
 have HS2:=Lib.hid ((HS0.out.step hb).step (bel1 w2 (.cells #[.slice b.1 b.2.1 b.2.2,.int .i64 bn] 52)))
 have HX2:=Lib.hid (heap_alloc_new w2 (.cells #[.slice b.1 b.2.1 b.2.2,.int .i64 bn] 52))
 have HBI:=Lib.hid (fun e=>(hbi e).below (bel1 w2 (.cells #[.slice b.1 b.2.1 b.2.2,.int .i64 bn] 52)))
 clear hb hbi HT HS0 h0 h1 h2 h3 h4 h5 h6 h7 h8 c0 c1 c2
 obtain ⟨h0,h1,h2,h3,h4,h5,h6,h7,h8⟩:=HS2.out.arr.c
 obtain ⟨c0,c1,c2⟩:_/\_/\_:=⟨HS2.out.ph.1 0,HS2.out.ph.1 1,HS2.out.ph.1 2⟩
 clear HBI HX2
 have HBE:=Lib.hid (below_set9 HS2.out.bel (show w.heap.size<=w.heap.size+2 by omega) (.slice none 0 0) (.int .i64 0) (.slice none 0 0) (.int .i64 0) (.slice none 0 0) (.slice none 0 0) (.slice none 0 0) (.slice none 0 0) (.slice none 0 0))
 have HRE:=Lib.hid (set9_block HS2.out.res (.slice none 0 0) (.int .i64 0) (.slice none 0 0) (.int .i64 0) (.slice none 0 0) (.slice none 0 0) (.slice none 0 0) (.slice none 0 0) (.slice none 0 0))
 obtain ⟨⟨y0,y1,y2,y3,y4,y5,y6,y7,y8⟩,yz⟩:=zero_block HS2.out.res
 go_wp2
 refine bodyPost_ret (v := .tuple #[arrV nilS zeroP,.bool false]) ?_ rfl (oaR_no HBE.out)
 exact ret_arr2 (fn:=Tryz.f98) (p:=8) (u:=9) rfl _ _ (w.heap.size+2) (by rfl) HRE.out
theorem longer_3_box {Ha:Nat->Prop}{a:PA}{h:Sl}{p:V8} (w:World) (g:AV Ha w a h p) (hHa:∀ b,Ha b->b < w.heap.size) (hn:0 < a.len) (hl:a.len<=1000000) (o most:Nat) (hr:a.shape.length=1) (hf:a.fill=2) :
  Calls Tryz.prog 98 #[.agg #[.int .i64 1,.int .i32 8835,.int .i32 9042],arrV h p,.int .i64 (o:Int),.int .i64 (most:Int)] w (OaR Ha w none):=by
 have HS0:=Lib.hid (ChX.new w 8835 9042 h p)
 have HT:=Lib.hid (fun W (hb:Below w.heap.size w W)=>ltruths_any g hn hl W hb)
 unfold TaR at HT
 have HH:=Lib.hid hHa
 have hrk:h.2.1=a.shape.length:=g.shape.len
 have hr1:((h.2.1:Int)==1)=true:=by rw [hrk,hr];rfl
 have HCL:=Lib.hid (fun W (hb:Below w.heap.size w W)=>av_class g W hb)
 rw [hf] at HCL
 clear hrk hHa g hn hl hr hf
 go_enter Tryz.func98,Tryz.ntmps98
 obtain ⟨h0,h1,h2,h3,h4,h5,h6,h7,h8⟩:=HS0.out.arr.c
 obtain ⟨c0,c1,c2⟩:_/\_/\_:=⟨HS0.out.ph.1 0,HS0.out.ph.1 1,HS0.out.ph.1 2⟩
 go_wp2_with fail
 refine (HT.out _ HS0.out.bel).mono ?_
 rintro e w2 ⟨b,bn,rfl,hbi,hb⟩
 have HS2:=Lib.hid ((HS0.out.step hb).step (bel1 w2 (.cells #[.slice b.1 b.2.1 b.2.2,.int .i64 bn] 52)))
 have HX2:=Lib.hid (heap_alloc_new w2 (.cells #[.slice b.1 b.2.1 b.2.2,.int .i64 bn] 52))
 have HBI:=Lib.hid (fun e=>(hbi e).below (bel1 w2 (.cells #[.slice b.1 b.2.1 b.2.2,.int .i64 bn] 52)))
 clear hb hbi HT HS0 h0 h1 h2 h3 h4 h5 h6 h7 h8 c0 c1 c2
 obtain ⟨h0,h1,h2,h3,h4,h5,h6,h7,h8⟩:=HS2.out.arr.c
 obtain ⟨c0,c1,c2⟩:_/\_/\_:=⟨HS2.out.ph.1 0,HS2.out.ph.1 1,HS2.out.ph.1 2⟩
 clear HBI HX2
 go_wp2_with fail
 refine (HCL.out _ HS2.out.bel).mono ?_
 rintro e w3 ⟨rfl,hb⟩
 have HS3:=Lib.hid (HS2.out.step hb)
 clear hb HS2 h0 h1 h2 h3 h4 h5 h6 h7 h8 c0 c1 c2
 obtain ⟨h0,h1,h2,h3,h4,h5,h6,h7,h8⟩:=HS3.out.arr.c
 obtain ⟨c0,c1,c2⟩:_/\_/\_:=⟨HS3.out.ph.1 0,HS3.out.ph.1 1,HS3.out.ph.1 2⟩
 have HBE:=Lib.hid (below_set9 HS3.out.bel (show w.heap.size<=w.heap.size+2 by omega) (.slice none 0 0) (.int .i64 0) (.slice none 0 0) (.int .i64 0) (.slice none 0 0) (.slice none 0 0) (.slice none 0 0) (.slice none 0 0) (.slice none 0 0))
 have HRE:=Lib.hid (set9_block HS3.out.res (.slice none 0 0) (.int .i64 0) (.slice none 0 0) (.int .i64 0) (.slice none 0 0) (.slice none 0 0) (.slice none 0 0) (.slice none 0 0) (.slice none 0 0))
 obtain ⟨⟨y0,y1,y2,y3,y4,y5,y6,y7,y8⟩,yz⟩:=zero_block HS3.out.res
 go_wp2
 refine bodyPost_ret (v := .tuple #[arrV nilS zeroP,.bool false]) ?_ rfl (oaR_no HBE.out)
 exact ret_arr2 (fn:=Tryz.f98) (p:=8) (u:=9) rfl _ _ (w.heap.size+2) (by rfl) HRE.out
theorem longer_3_ok {Ha:Nat->Prop}{a:PA}{h:Sl}{p:V8} (w:World) (g:AV Ha w a h p) (hHa:∀ b,Ha b->b < w.heap.size) (hn:0 < a.len) (hl:a.len<=1000000) (o most:Nat) (d:Nat) (hgd:GoodA d a) (hca:ChA a) (ho:o<=1) (hr:a.shape.length=1) (hf:a.fill≠2) :
  Calls Tryz.prog 98 #[.agg #[.int .i64 1,.int .i32 8835,.int .i32 9042],arrV h p,.int .i64 (o:Int),.int .i64 (most:Int)] w (OaR Ha w (some (oneA ((extN (ltX (elA a) true) a.len:Nat)+(o:Nat))))):=by
 have HS0:=Lib.hid (ChX.new w 8835 9042 h p)
 have HT:=Lib.hid (fun W (hb:Below w.heap.size w W)=>ltruths_any g hn hl W hb)
 unfold TaR at HT
 have HH:=Lib.hid hHa
 have hrk:h.2.1=a.shape.length:=g.shape.len
 have hr1:((h.2.1:Int)==1)=true:=by rw [hrk,hr];rfl
 have HCL:=Lib.hid (fun W (hb:Below w.heap.size w W)=>av_class g W hb)
 have hf1:(((a.fill:Nat):Int) != 2)=true:=by simpa using fun h:(a.fill:Int)=2=>hf (by omega)
 clear hrk hHa hr
 go_enter Tryz.func98,Tryz.ntmps98
 obtain ⟨h0,h1,h2,h3,h4,h5,h6,h7,h8⟩:=HS0.out.arr.c
 obtain ⟨c0,c1,c2⟩:_/\_/\_:=⟨HS0.out.ph.1 0,HS0.out.ph.1 1,HS0.out.ph.1 2⟩
 go_wp2_with fail
 refine (HT.out _ HS0.out.bel).mono ?_
 rintro e w2 ⟨b,bn,rfl,hbi,hb⟩
 have HS2:=Lib.hid ((HS0.out.step hb).step (bel1 w2 (.cells #[.slice b.1 b.2.1 b.2.2,.int .i64 bn] 52)))
 have HX2:=Lib.hid (heap_alloc_new w2 (.cells #[.slice b.1 b.2.1 b.2.2,.int .i64 bn] 52))
 have HBI:=Lib.hid (fun e=>(hbi e).below (bel1 w2 (.cells #[.slice b.1 b.2.1 b.2.2,.int .i64 bn] 52)))
 clear hb hbi HT HS0 h0 h1 h2 h3 h4 h5 h6 h7 h8 c0 c1 c2
 obtain ⟨h0,h1,h2,h3,h4,h5,h6,h7,h8⟩:=HS2.out.arr.c
 obtain ⟨c0,c1,c2⟩:_/\_/\_:=⟨HS2.out.ph.1 0,HS2.out.ph.1 1,HS2.out.ph.1 2⟩
 clear HBI HX2
 go_wp2_with fail
 refine (HCL.out _ HS2.out.bel).mono ?_
 rintro e w3 ⟨rfl,hb⟩
 have HS3:=Lib.hid (HS2.out.step hb)
 clear hb HS2 h0 h1 h2 h3 h4 h5 h6 h7 h8 c0 c1 c2
 obtain ⟨h0,h1,h2,h3,h4,h5,h6,h7,h8⟩:=HS3.out.arr.c
 obtain ⟨c0,c1,c2⟩:_/\_/\_:=⟨HS3.out.ph.1 0,HS3.out.ph.1 1,HS3.out.ph.1 2⟩
 have HEX:=Lib.hid (extr_any _ (AV.step g HS3.out.bel) d hgd hca hf hl true)
 go_wp2_with fail
 refine HEX.out.mono ?_
 rintro e w4 ⟨rfl,hb⟩
 have HS4:=Lib.hid (HS3.out.step hb)
 clear hb HEX HS3 h0 h1 h2 h3 h4 h5 h6 h7 h8 c0 c1 c2
 have hz9:extN (ltX (elA a) true) a.len<=1000000:=by have:=extN_le (ltX (elA a) true) a.len;omega
 generalize extN (ltX (elA a) true) a.len=z9 at *
 obtain ⟨h0,h1,h2,h3,h4,h5,h6,h7,h8⟩:=HS4.out.arr.c
 obtain ⟨c0,c1,c2⟩:_/\_/\_:=⟨HS4.out.ph.1 0,HS4.out.ph.1 1,HS4.out.ph.1 2⟩
 have HWH:=Lib.hid (whl_any ((z9:Int)+(o:Int)) (by constructor <;> omega) (fun b=>Ha b\/b=w.heap.size+2) _ (fun b e=>hole2 HH.out HS4.out b e))
 unfold AaR at HWH
 go_wp2_with fail
 refine HWH.out.mono ?_
 rintro e w5 ⟨h',p',rfl,hav,hb⟩
 clear HWH
 have HS5:=Lib.hid (HS4.out.step hb)
 have HAV:Hid (AV Ha (set9 w5 (w.heap.size+2) (sv h') (.int .i64 p'.k) (sv p'.b) (.int .i64 p'.bn) (sv p'.s) (sv p'.i) (sv p'.f) (sv p'.c) (sv p'.x)) (oneA ((z9:Int)+(o:Int))) h' p'):=AV.sub (fun b _ e => .inl e) (AV.lat (Lat.set9 (G:=w.heap.size+2) (.inr rfl) _ _ _ _ _ _ _ _ _) hav)
 clear hav hb h0 h1 h2 h3 h4 h5 h6 h7 h8 c0 c1 c2 HS4
 obtain ⟨⟨y0,y1,y2,y3,y4,y5,y6,y7,y8⟩,yz⟩:=zero_block HS5.out.res
 have HBE:=Lib.hid (below_set9 HS5.out.bel (show w.heap.size<=w.heap.size+2 by omega) (sv h') (.int .i64 p'.k) (sv p'.b) (.int .i64 p'.bn) (sv p'.s) (sv p'.i) (sv p'.f) (sv p'.c) (sv p'.x))
 have HRE:=Lib.hid (set9_block HS5.out.res (sv h') (.int .i64 p'.k) (sv p'.b) (.int .i64 p'.bn) (sv p'.s) (sv p'.i) (sv p'.f) (sv p'.c) (sv p'.x))
 go_wp2
 refine bodyPost_ret (v := .tuple #[arrV h' p',.bool true]) ?_ rfl (oaR_yes HAV.out HBE.out)
 exact ret_arr2 (fn:=Tryz.f98) (p:=8) (u:=9) rfl _ _ (w.heap.size+2) (by rfl) HRE.out
theorem longer_10_no {Ha:Nat->Prop}{a:PA}{h:Sl}{p:V8} (w:World) (g:AV Ha w a h p) (hHa:∀ b,Ha b->b < w.heap.size) (hn:0 < a.len) (hl:a.len<=1000000) (o most:Nat) (hm:most<=1000000) (ho:o<=1) (hi:iotaN a most=none) :
  Calls Tryz.prog 98 #[.agg #[.int .i64 1,.int .i32 9021,.int .i32 9075],arrV h p,.int .i64 (o:Int),.int .i64 (most:Int)] w (OaR Ha w none):=by
 have HS0:=Lib.hid (ChX.new w 9021 9075 h p)
 have HT:=Lib.hid (fun W (hb:Below w.heap.size w W)=>ltruths_any g hn hl W hb)
 unfold TaR at HT
 have HH:=Lib.hid hHa
 have hrk:h.2.1=a.shape.length:=g.shape.len
 have HIO:=Lib.hid (fun W (hb:Below w.heap.size w W)=>iota_any (Ha:=Ha) W (AV.step g hb) o most hm ho (fun b e=>by have:=hHa b e;have:=hb.size;omega))
 unfold IoR at HIO
 rw [hi] at HIO
 dsimp only at HIO
 clear hrk hHa g hn hl hi hm ho
 go_enter Tryz.func98,Tryz.ntmps98
 obtain ⟨h0,h1,h2,h3,h4,h5,h6,h7,h8⟩:=HS0.out.arr.c
 obtain ⟨c0,c1,c2⟩:_/\_/\_:=⟨HS0.out.ph.1 0,HS0.out.ph.1 1,HS0.out.ph.1 2⟩
 go_wp2_with fail
 refine (HT.out _ HS0.out.bel).mono ?_
 rintro e w2 ⟨b,bn,rfl,hbi,hb⟩
 have HS2:=Lib.hid ((HS0.out.step hb).step (bel1 w2 (.cells #[.slice b.1 b.2.1 b.2.2,.int .i64 bn] 52)))
 have HX2:=Lib.hid (heap_alloc_new w2 (.cells #[.slice b.1 b.2.1 b.2.2,.int .i64 bn] 52))
 have HBI:=Lib.hid (fun e=>(hbi e).below (bel1 w2 (.cells #[.slice b.1 b.2.1 b.2.2,.int .i64 bn] 52)))
 clear hb hbi HT HS0 h0 h1 h2 h3 h4 h5 h6 h7 h8 c0 c1 c2
 obtain ⟨h0,h1,h2,h3,h4,h5,h6,h7,h8⟩:=HS2.out.arr.c
 obtain ⟨c0,c1,c2⟩:_/\_/\_:=⟨HS2.out.ph.1 0,HS2.out.ph.1 1,HS2.out.ph.1 2⟩
 clear HBI HX2
 go_wp2_with fail
 refine (HIO.out _ HS2.out.bel).mono ?_
 rintro e w3 ⟨z,hz,rfl,hb⟩
 have HS3:=Lib.hid ((HS2.out.step hb).step (bel1 w3 (arrO nilS zeroP)))
 have hz1:(z==0)=false:=beq_eq_false_iff_ne.2 hz
 clear hb hz HS2 HIO h0 h1 h2 h3 h4 h5 h6 h7 h8 c0 c1 c2
 obtain ⟨h0,h1,h2,h3,h4,h5,h6,h7,h8⟩:=HS3.out.arr.c
 obtain ⟨c0,c1,c2⟩:_/\_/\_:=⟨HS3.out.ph.1 0,HS3.out.ph.1 1,HS3.out.ph.1 2⟩
 have HBE:=Lib.hid (below_set9 HS3.out.bel (show w.heap.size<=w.heap.size+2 by omega) (.slice none 0 0) (.int .i64 0) (.slice none 0 0) (.int .i64 0) (.slice none 0 0) (.slice none 0 0) (.slice none 0 0) (.slice none 0 0) (.slice none 0 0))
 have HRE:=Lib.hid (set9_block HS3.out.res (.slice none 0 0) (.int .i64 0) (.slice none 0 0) (.int .i64 0) (.slice none 0 0) (.slice none 0 0) (.slice none 0 0) (.slice none 0 0) (.slice none 0 0))
 obtain ⟨⟨y0,y1,y2,y3,y4,y5,y6,y7,y8⟩,yz⟩:=zero_block HS3.out.res
 go_wp2
 refine bodyPost_ret (v := .tuple #[arrV nilS zeroP,.bool false]) ?_ rfl (oaR_no HBE.out)
 exact ret_arr2 (fn:=Tryz.f98) (p:=8) (u:=9) rfl _ _ (w.heap.size+2) (by rfl) HRE.out
structure L10 (w w4 W:World) (h:Sl) (p:V8) (G:Nat) (hq:Sl) (pq:V8):Prop where
 st:ChX w W 9021 9075 h p
 box:At9 W G 0 hq pq
 bel4:Below w4.heap.size w4 W
 low:w.heap.size+2 < G
theorem L10.step {w w4 W W':World}{h:Sl}{p:V8}{G:Nat}{hq:Sl}{pq:V8} (s:L10 w w4 W h p G hq pq) (hb:Below W.heap.size W W'):L10 w w4 W' h p G hq pq:=⟨s.st.step hb,s.box.below hb,bel_both s.bel4 hb,s.low⟩
theorem L10.dr {w w4 W:World}{h:Sl}{p:V8}{G:Nat}{hq:Sl}{pq:V8} (s:L10 w w4 W h p G hq pq):L10 w w4 W.drew h p G hq pq:=s.step (Below.refl _ W).drew
theorem l10_set {w w4 W:World}{h:Sl}{p:V8}{G:Nat}{hq:Sl}{pq:V8} (s:L10 w w4 W h p G hq pq) (a0 a1 a2 a3 a4 a5 a6 a7 a8:Value):At9 (set9 W (w.heap.size+2) a0 a1 a2 a3 a4 a5 a6 a7 a8) G 0 hq pq:=At9.lat (H:=fun b=>b=w.heap.size+2) s.box (by have:=s.low;omega) (Lat.set9 (H:=fun b=>b=w.heap.size+2) (G:=w.heap.size+2) rfl a0 a1 a2 a3 a4 a5 a6 a7 a8)
theorem ten_fin {Ha:Nat->Prop}{w w4 W:World}{h:Sl}{p:V8}{G:Nat}{hq h':Sl}{pq p':V8}{m:Nat}{F G':Nat->Nat} (s:L10 w w4 W h p G hq pq) (g:AVN (fun b=>Ha b\/b=w.heap.size+2) w4 m F h' pq) (hn:NumA (fun b=>Ha b\/b=w.heap.size+2) W p' ((List.range m).map G')) :
  AV Ha (set9 W (w.heap.size+2) (sv h') (.int .i64 p'.k) (.slice p'.b.1 p'.b.2.1 p'.b.2.2) (.int .i64 p'.bn) (.slice p'.s.1 p'.s.2.1 p'.s.2.2) (.slice p'.i.1 p'.i.2.1 p'.i.2.2) (.slice p'.f.1 p'.f.2.1 p'.f.2.2) (.slice p'.c.1 p'.c.2.1 p'.c.2.2) (.slice p'.x.1 p'.x.2.1 p'.x.2.2)) (.nums [m] ((List.range m).map G')) h' p':=by
 refine AV.sub (H:=fun b=>Ha b\/b=w.heap.size+2) (fun b _ e => .inl e) (AV.lat (Lat.set9 (G:=w.heap.size+2) (.inr rfl) _ _ _ _ _ _ _ _ _) ?_)
 rw [AV]
 exact ⟨Keeps.lat g.1.shape (Lat.below s.bel4),hn⟩
theorem longer_10_ok {Ha:Nat->Prop}{a:PA}{h:Sl}{p:V8} (w:World) (g:AV Ha w a h p) (hHa:∀ b,Ha b->b < w.heap.size) (hn:0 < a.len) (hl:a.len<=1000000) (o most:Nat) (hm:most<=1000000) (ho:o<=1) (m:Nat) (hi:iotaN a most=some m) (hmm:m<=1000000) :
  Calls Tryz.prog 98 #[.agg #[.int .i64 1,.int .i32 9021,.int .i32 9075],arrV h p,.int .i64 (o:Int),.int .i64 (most:Int)] w (OaR Ha w (some (.nums [m] ((List.range m).map fun i=>fi ((m - 1 - i+o:Nat):Int))))):=by
 have HS0:=Lib.hid (ChX.new w 9021 9075 h p)
 have HT:=Lib.hid (fun W (hb:Below w.heap.size w W)=>ltruths_any g hn hl W hb)
 unfold TaR at HT
 have HH:=Lib.hid hHa
 have hrk:h.2.1=a.shape.length:=g.shape.len
 have g2:AV (fun b=>Ha b\/b=w.heap.size+2) w a h p:=AV.sub (fun b hb e=>by rcases e with e | e;exact e;omega) g
 have HIO:=Lib.hid (fun W (hb:Below w.heap.size w W) (hz:w.heap.size+2 < W.heap.size)=>iota_any (Ha:=fun b=>Ha b\/b=w.heap.size+2) W (AV.step g2 hb) o most hm ho (fun b e=>by rcases e with e | e;have:=hHa b e;have:=hb.size;omega;omega))
 unfold IoR at HIO
 rw [hi] at HIO
 dsimp only at HIO
 clear hrk hHa g2 g hn hl hi hm ho
 go_enter Tryz.func98,Tryz.ntmps98
 obtain ⟨h0,h1,h2,h3,h4,h5,h6,h7,h8⟩:=HS0.out.arr.c
 obtain ⟨c0,c1,c2⟩:_/\_/\_:=⟨HS0.out.ph.1 0,HS0.out.ph.1 1,HS0.out.ph.1 2⟩
 go_wp2_with fail
 refine (HT.out _ HS0.out.bel).mono ?_
 rintro e w2 ⟨b,bn,rfl,hbi,hb⟩
 have HS2:=Lib.hid ((HS0.out.step hb).step (bel1 w2 (.cells #[.slice b.1 b.2.1 b.2.2,.int .i64 bn] 52)))
 have HX2:=Lib.hid (heap_alloc_new w2 (.cells #[.slice b.1 b.2.1 b.2.2,.int .i64 bn] 52))
 have HBI:=Lib.hid (fun e=>(hbi e).below (bel1 w2 (.cells #[.slice b.1 b.2.1 b.2.2,.int .i64 bn] 52)))
 clear hb hbi HT HS0 h0 h1 h2 h3 h4 h5 h6 h7 h8 c0 c1 c2
 obtain ⟨h0,h1,h2,h3,h4,h5,h6,h7,h8⟩:=HS2.out.arr.c
 obtain ⟨c0,c1,c2⟩:_/\_/\_:=⟨HS2.out.ph.1 0,HS2.out.ph.1 1,HS2.out.ph.1 2⟩
 clear HBI HX2
 go_wp2_with fail
 refine (HIO.out _ HS2.out.bel (lt_blk HS2.out.res)).mono ?_
 rintro e w3 ⟨hq,pq,rfl,hav,hb⟩
 obtain ⟨w4,hw4⟩:∃ w4,w4=w3.alloc (arrO hq pq):=⟨_,rfl⟩
 have hb4:Below w3.heap.size w3 w4:=by rw [hw4];exact bel1 _ _
 obtain ⟨G,hG⟩:∃ G,G=w3.heap.size:=⟨_,rfl⟩
 have hL0:L10 w w4 w4 h p G hq pq:=⟨(HS2.out.step hb).step hb4,by rw [hG,hw4];exact at9_new w3 hq pq,Below.refl _ _,by rw [hG];exact lt_blk (HS2.out.step hb).res⟩
 have HL0:=Lib.hid hL0
 have HAV4:=Lib.hid (AVN.lat (Lat.below hb4) hav)
 have HTN:=Lib.hid (fun W (hb:Below w4.heap.size w4 W)=>vturn_any (H:=fun b=>Ha b\/b=w.heap.size+2) (F:=fun j=>fi ((j+o:Nat):Int)) W (fun b e=>by
  have h1:=hL0.low
  have hq:=hb.size
  have h3:=lt_blk hL0.st.res
  rcases e with e | e
  ·have:=HH.out b e;omega
  ·omega) hmm (HAV4.out.2.step hb))
 unfold VecR at HTN
 clear hav hb hb4 HS2 HIO h0 h1 h2 h3 h4 h5 h6 h7 h8 c0 c1 c2
 go_upto_region 12 with fail
 rw [<- hw4,<- hG]
 clear hL0 hw4 hG
 have hls0:L10 w w4 w4.drew h p G hq pq:=HL0.out.dr
 have hls00:=HL0.out
 refine wp_region_noPanic ?_
 refine wp_region_held_drew (S:=fun W=>W.cell? ⟨G,0,none⟩=some (.slice hq.1 hq.2.1 hq.2.2)/\W.cell? ⟨G,1,none⟩=some (.int .i64 pq.k)/\W.cell? ⟨G,2,none⟩=some (.slice pq.b.1 pq.b.2.1 pq.b.2.2)/\W.cell? ⟨G,3,none⟩=some (.int .i64 pq.bn)/\W.cell? ⟨G,4,none⟩=some (.slice pq.s.1 pq.s.2.1 pq.s.2.2)/\W.cell? ⟨G,5,none⟩=some (.slice pq.i.1 pq.i.2.1 pq.i.2.2)/\W.cell? ⟨G,6,none⟩=some (.slice pq.f.1 pq.f.2.1 pq.f.2.2)/\W.cell? ⟨G,7,none⟩=some (.slice pq.c.1 pq.c.2.1 pq.c.2.2)/\W.cell? ⟨G,8,none⟩=some (.slice pq.x.1 pq.x.2.1 pq.x.2.2)) (by kernel_rfl) (by exact At9.c hls0.box) (fun hHeld=>?_)
 refine wpAnyH_take (i:=0) (v:=?av1) rfl (by kernel_rfl) (by kernel_rfl) (by kernel_rfl) (fun _ _ _ h=>h) (Or.inl ⟨by rfl,?ay1⟩) (by assumption) ?as1
 case ay1=>(intro w hSw;(try dsimp only at hSw);go_simp;try with_reducible rfl)
 change wpAnyH _ _ _ _ _ _ _ (Act.put _ (some 108) _) _
 simp only [Act.put,List.setIfInBounds_toArray,List.set_cons_zero,List.set_cons_succ]
 refine wpAnyH_take (i:=1) (v:=?av2) rfl (by kernel_rfl) (by kernel_rfl) (by kernel_rfl) (fun _ _ _ h=>h) (Or.inl ⟨by rfl,?ay2⟩) (by assumption) ?as2
 case ay2=>(intro w hSw;(try dsimp only at hSw);go_simp;try with_reducible rfl)
 change wpAnyH _ _ _ _ _ _ _ (Act.put _ (some 109) _) _
 simp only [Act.put,List.setIfInBounds_toArray,List.set_cons_zero,List.set_cons_succ]
 refine wpAnyH_take (i:=2) (v:=?av3) rfl (by kernel_rfl) (by kernel_rfl) (by kernel_rfl) (fun _ _ _ h=>h) (Or.inl ⟨by rfl,?ay3⟩) (by assumption) ?as3
 case ay3=>(intro w hSw;(try dsimp only at hSw);go_simp;try with_reducible rfl)
 change wpAnyH _ _ _ _ _ _ _ (Act.put _ (some 110) _) _
 simp only [Act.put,List.setIfInBounds_toArray,List.set_cons_zero,List.set_cons_succ]
 refine wpAnyH_take (i:=3) (v:=?av4) rfl (by kernel_rfl) (by kernel_rfl) (by kernel_rfl) (fun _ _ _ h=>h) (Or.inl ⟨by rfl,?ay4⟩) (by assumption) ?as4
 case ay4=>(intro w hSw;(try dsimp only at hSw);go_simp;try with_reducible rfl)
 change wpAnyH _ _ _ _ _ _ _ (Act.put _ (some 111) _) _
 simp only [Act.put,List.setIfInBounds_toArray,List.set_cons_zero,List.set_cons_succ]
 refine wpAnyH_ready (rs:=[4]) (by kernel_rfl) (by simp) ?_
 refine AllReadyH.cons rfl (fun K hK=>?_) AllReadyH.nil
 go_simp
 (go_at_call 149;(with_reducible refine (HTN.out _ ?_).mono ?_);exact L10.bel4 (by repeat (first | (with_reducible assumption) | (with_reducible refine L10.dr ?_)));rintro e w5 ⟨k5,b5,bn5,s5,i5,f5,c5,x5,rfl,hk5,hb5⟩;have hls5:L10 w w4 w5 h p G hq pq:=L10.step (by repeat (first | (with_reducible assumption) | (with_reducible refine L10.dr ?_))) hb5;have HNZ:=Lib.hid (numZ_of (hk5.imp fun W h => .inl h));clear hk5 hb5)
 refine hK.out _ _ (by first | (with_reducible assumption) | ((with_reducible (refine At9.c (L10.box (w:=w) (w4:=w4) (h:=h) (p:=p) ?_)));(repeat (first | (with_reducible assumption) | (with_reducible refine L10.dr ?_)));done) | (exact At9.c (l10_set hls5 _ _ _ _ _ _ _ _ _))) (fun hHeld=>?_)
 clear hK K
 refine wpAnyH_take (i:=5) (v:=?av5) rfl (by kernel_rfl) (by kernel_rfl) (by kernel_rfl) (fun _ _ _ h=>h) (Or.inl ⟨by rfl,?ay5⟩) (by assumption) ?as5
 case ay5=>(intro w hSw;(try dsimp only at hSw);go_simp;try with_reducible rfl)
 change wpAnyH _ _ _ _ _ _ _ (Act.put _ (some 113) _) _
 simp only [Act.put,List.setIfInBounds_toArray,List.set_cons_zero,List.set_cons_succ]
 refine wpAnyH_ready (rs:=[6]) (by kernel_rfl) (by simp) ?_
 refine AllReadyH.cons rfl (fun K hK=>?_) AllReadyH.nil
 (skip;(obtain ⟨⟨y0,y1,y2,y3,y4,y5,y6,y7,y8⟩,yz⟩:=zero_block hls5.st.res);go_simp)
 refine hK.out _ _ (by first | (with_reducible assumption) | ((with_reducible (refine At9.c (L10.box (w:=w) (w4:=w4) (h:=h) (p:=p) ?_)));(repeat (first | (with_reducible assumption) | (with_reducible refine L10.dr ?_)));done) | (exact At9.c (l10_set hls5 _ _ _ _ _ _ _ _ _))) (fun hHeld=>?_)
 clear hK K
 refine wpAnyH_ready (rs:=[7]) (by kernel_rfl) (by simp) ?_
 refine AllReadyH.cons rfl (fun K hK=>?_) AllReadyH.nil
 go_simp
 refine hK.out _ _ (by first | (with_reducible assumption) | ((with_reducible (refine At9.c (L10.box (w:=w) (w4:=w4) (h:=h) (p:=p) ?_)));(repeat (first | (with_reducible assumption) | (with_reducible refine L10.dr ?_)));done) | (exact At9.c (l10_set hls5 _ _ _ _ _ _ _ _ _))) (fun hHeld=>?_)
 clear hK K
 refine wpAnyH_done (by kernel_rfl) ?_ _
 refine NoPanic.normal ?_
 have HAV:=Lib.hid (ten_fin (h':=hq) (p':=⟨k5,b5,bn5,s5,i5,f5,c5,x5⟩) hls5 HAV4.out HNZ.out)
 have HBE:Hid (Below w.heap.size w (set9 w5 (w.heap.size+2) (sv hq) (.int .i64 k5) (.slice b5.1 b5.2.1 b5.2.2) (.int .i64 bn5) (.slice s5.1 s5.2.1 s5.2.2) (.slice i5.1 i5.2.1 i5.2.2) (.slice f5.1 f5.2.1 f5.2.2) (.slice c5.1 c5.2.1 c5.2.2) (.slice x5.1 x5.2.1 x5.2.2))):=below_set9 hls5.st.bel (by omega) _ _ _ _ _ _ _ _ _
 have HRE:=Lib.hid (set9_block hls5.st.res (sv hq) (.int .i64 k5) (.slice b5.1 b5.2.1 b5.2.2) (.int .i64 bn5) (.slice s5.1 s5.2.1 s5.2.2) (.slice i5.1 i5.2.1 i5.2.2) (.slice f5.1 f5.2.1 f5.2.2) (.slice c5.1 c5.2.1 c5.2.2) (.slice x5.1 x5.2.1 x5.2.2))
 go_wp2
 refine bodyPost_ret (v := .tuple #[arrV hq ⟨k5,b5,bn5,s5,i5,f5,c5,x5⟩,.bool true]) ?_ rfl (oaR_yes HAV.out HBE.out)
 exact ret_arr2 (fn:=Tryz.f98) (p:=8) (u:=9) rfl _ _ (w.heap.size+2) (by rfl) HRE.out
end Go.Proofs.YtbakjaliponbbaaGreatDoor
