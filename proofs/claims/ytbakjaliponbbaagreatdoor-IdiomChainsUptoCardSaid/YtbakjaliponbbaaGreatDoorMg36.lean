/- The walk of idiom.chain. Printed by .. Conditions: as each theorem says. -/
import Derived.Test.YtbakjaliponbbaaGreatDoorMg35
import Derived.Test.YtbakjaliponbbaaGreatDoorMg07
set_option maxRecDepth 100000
set_option maxHeartbeats 4000000
namespace Go.Proofs.YtbakjaliponbbaaGreatDoor
open Go Go.RowKit Go.Proofs Fl
theorem iotaN_le {a:PA}{most m:Nat} (h:iotaN a most=some m):m<=most:=by
 unfold iotaN at h
 split at h
 ·split at h
  ·split at h
   ·rename_i h2
    have:=Option.some.inj h
    omega
   ·cases h
  ·cases h
 ·cases h
theorem chain_most {Ha:Nat->Prop}{a:PA}{h:Sl}{p:V8} (w:World) (g:AV Ha w a h p) (hHa:∀ b,Ha b->b < w.heap.size) (f9 g9:Int) (o most:Nat) (hm:most < a.len) :
  Calls Tryz.prog 47 #[.agg #[.int .i64 1,.int .i32 f9,.int .i32 g9],arrV h p,.int .i64 (o:Int),.int .i64 (most:Int)] w (OaR Ha w none):=by
 have HS0:=Lib.hid (ChX.new w f9 g9 h p)
 have HL:=Lib.hid (fun W (hb:Below w.heap.size w W)=>av_len g W hb)
 have HH:=Lib.hid hHa
 have hrk:h.2.1=a.shape.length:=g.shape.len
 have hn1:(most:Int) < (a.len:Int):=by omega
 clear hrk hHa g hm
 go_enter Tryz.func47,Tryz.ntmps47
 obtain ⟨h0,h1,h2,h3,h4,h5,h6,h7,h8⟩:=HS0.out.arr.c
 obtain ⟨c0,c1,c2⟩:_/\_/\_:=⟨HS0.out.ph.1 0,HS0.out.ph.1 1,HS0.out.ph.1 2⟩
 go_wp2_with fail
 refine (HL.out _ HS0.out.bel).mono ?_
 rintro e w2 ⟨rfl,hb⟩
 have HS2:=Lib.hid (HS0.out.step hb)
 clear hb HS0 h0 h1 h2 h3 h4 h5 h6 h7 h8 c0 c1 c2
 obtain ⟨h0,h1,h2,h3,h4,h5,h6,h7,h8⟩:=HS2.out.arr.c
 obtain ⟨c0,c1,c2⟩:_/\_/\_:=⟨HS2.out.ph.1 0,HS2.out.ph.1 1,HS2.out.ph.1 2⟩
 have HBE:=Lib.hid (below_set9 HS2.out.bel (show w.heap.size<=w.heap.size+2 by omega) (.slice none 0 0) (.int .i64 0) (.slice none 0 0) (.int .i64 0) (.slice none 0 0) (.slice none 0 0) (.slice none 0 0) (.slice none 0 0) (.slice none 0 0))
 have HRE:=Lib.hid (set9_block HS2.out.res (.slice none 0 0) (.int .i64 0) (.slice none 0 0) (.int .i64 0) (.slice none 0 0) (.slice none 0 0) (.slice none 0 0) (.slice none 0 0) (.slice none 0 0))
 go_upto_region 4 with fail
 obtain ⟨⟨y0,y1,y2,y3,y4,y5,y6,y7,y8⟩,yz⟩:=zero_block HS2.out.res
 go_wp2
 refine bodyPost_ret (v := .tuple #[arrV nilS zeroP,.bool false]) ?_ rfl (oaR_no HBE.out)
 exact ret_arr2 (fn:=Tryz.f47) (p:=8) (u:=9) rfl _ _ (w.heap.size+2) (by rfl) HRE.out
theorem chain_zero {Ha:Nat->Prop}{a:PA}{h:Sl}{p:V8} (w:World) (g:AV Ha w a h p) (hHa:∀ b,Ha b->b < w.heap.size) (f9 g9:Int) (o most:Nat) (hm:a.len=0) :
  Calls Tryz.prog 47 #[.agg #[.int .i64 1,.int .i32 f9,.int .i32 g9],arrV h p,.int .i64 (o:Int),.int .i64 (most:Int)] w (OaR Ha w none):=by
 have HS0:=Lib.hid (ChX.new w f9 g9 h p)
 have HL:=Lib.hid (fun W (hb:Below w.heap.size w W)=>av_len g W hb)
 have HH:=Lib.hid hHa
 have hrk:h.2.1=a.shape.length:=g.shape.len
 have hn1:¬ (most:Int) < 0:=by omega
 rw [hm] at HL
 have HL0:Hid (∀ W,Below w.heap.size w W->Calls Tryz.prog 48 #[p.v] W fun e w2=>e= .returned (.int .i64 0)/\Below W.heap.size W w2):=HL.out
 clear HL
 clear hrk hHa g hm
 go_enter Tryz.func47,Tryz.ntmps47
 obtain ⟨h0,h1,h2,h3,h4,h5,h6,h7,h8⟩:=HS0.out.arr.c
 obtain ⟨c0,c1,c2⟩:_/\_/\_:=⟨HS0.out.ph.1 0,HS0.out.ph.1 1,HS0.out.ph.1 2⟩
 go_wp2_with fail
 refine (HL0.out _ HS0.out.bel).mono ?_
 rintro e w2 ⟨rfl,hb⟩
 have HS2:=Lib.hid (HS0.out.step hb)
 clear hb HS0 h0 h1 h2 h3 h4 h5 h6 h7 h8 c0 c1 c2
 obtain ⟨h0,h1,h2,h3,h4,h5,h6,h7,h8⟩:=HS2.out.arr.c
 obtain ⟨c0,c1,c2⟩:_/\_/\_:=⟨HS2.out.ph.1 0,HS2.out.ph.1 1,HS2.out.ph.1 2⟩
 have HBE:=Lib.hid (below_set9 HS2.out.bel (show w.heap.size<=w.heap.size+2 by omega) (.slice none 0 0) (.int .i64 0) (.slice none 0 0) (.int .i64 0) (.slice none 0 0) (.slice none 0 0) (.slice none 0 0) (.slice none 0 0) (.slice none 0 0))
 have HRE:=Lib.hid (set9_block HS2.out.res (.slice none 0 0) (.int .i64 0) (.slice none 0 0) (.int .i64 0) (.slice none 0 0) (.slice none 0 0) (.slice none 0 0) (.slice none 0 0) (.slice none 0 0))
 go_upto_region 4 with fail
 obtain ⟨⟨y0,y1,y2,y3,y4,y5,y6,y7,y8⟩,yz⟩:=zero_block HS2.out.res
 go_wp2
 refine bodyPost_ret (v := .tuple #[arrV nilS zeroP,.bool false]) ?_ rfl (oaR_no HBE.out)
 exact ret_arr2 (fn:=Tryz.f47) (p:=8) (u:=9) rfl _ _ (w.heap.size+2) (by rfl) HRE.out
theorem chain_0_ok {Ha:Nat->Prop}{a:PA}{h:Sl}{p:V8} (w:World) (g:AV Ha w a h p) (hHa:∀ b,Ha b->b < w.heap.size) (o most:Nat) (hn:0 < a.len) (hm:a.len<=most) (hl:a.len<=1000000) (hr:a.shape.length=1) :
  Calls Tryz.prog 47 #[.agg #[.int .i64 1,.int .i32 8835,.int .i32 9021],arrV h p,.int .i64 (o:Int),.int .i64 (most:Int)] w (OaR Ha w (some (partA a (a.len - 1)))):=by
 have HS0:=Lib.hid (ChX.new w 8835 9021 h p)
 have HL:=Lib.hid (fun W (hb:Below w.heap.size w W)=>av_len g W hb)
 have HH:=Lib.hid hHa
 have hrk:h.2.1=a.shape.length:=g.shape.len
 have hn1:¬ (most:Int) < (a.len:Int):=by omega
 have hn0:((a.len:Int)==0)=false:=beq_eq_false_iff_ne.2 (by omega)
 have HMO:=Lib.hid hm
 have HNO:=Lib.hid hn
 have g2:AV (fun b=>Ha b\/b=w.heap.size+2) w a h p:=AV.sub (fun b hb e=>by rcases e with e | e;exact e;omega) g
 have HP:=Lib.hid (fun W (hb:Below w.heap.size w W) (hz:w.heap.size+2 < W.heap.size)=>epart_any W (AV.step g2 hb) (fun b e=>by rcases e with e | e;have:=hHa b e;have:=hb.size;omega;omega) (a.len - 1) (by omega) hl)
 unfold AaR at HP
 have hr1:((h.2.1:Int)==1)=true:=by rw [hrk,hr];rfl
 have hsb:((a.len - 1:Nat):Int)=(a.len:Int) - 1:=by omega
 rw [hsb] at HP
 clear hrk hHa g g2 hm hr
 go_enter Tryz.func47,Tryz.ntmps47
 obtain ⟨h0,h1,h2,h3,h4,h5,h6,h7,h8⟩:=HS0.out.arr.c
 obtain ⟨c0,c1,c2⟩:_/\_/\_:=⟨HS0.out.ph.1 0,HS0.out.ph.1 1,HS0.out.ph.1 2⟩
 go_wp2_with fail
 refine (HL.out _ HS0.out.bel).mono ?_
 rintro e w2 ⟨rfl,hb⟩
 have HS2:=Lib.hid (HS0.out.step hb)
 clear hb HS0 h0 h1 h2 h3 h4 h5 h6 h7 h8 c0 c1 c2
 obtain ⟨h0,h1,h2,h3,h4,h5,h6,h7,h8⟩:=HS2.out.arr.c
 obtain ⟨c0,c1,c2⟩:_/\_/\_:=⟨HS2.out.ph.1 0,HS2.out.ph.1 1,HS2.out.ph.1 2⟩
 clear hsb
 go_wp2_with fail
 refine (HP.out _ HS2.out.bel (lt_blk HS2.out.res)).mono ?_
 rintro e w5 ⟨h',p',rfl,hav,hb⟩
 have HS5:=Lib.hid (HS2.out.step hb)
 have HAV:Hid (AV Ha (set9 w5 (w.heap.size+2) (sv h') (.int .i64 p'.k) (sv p'.b) (.int .i64 p'.bn) (sv p'.s) (sv p'.i) (sv p'.f) (sv p'.c) (sv p'.x)) (partA a (a.len - 1)) h' p'):=AV.sub (fun b _ e => .inl e) (AV.lat (Lat.set9 (G:=w.heap.size+2) (.inr rfl) _ _ _ _ _ _ _ _ _) hav)
 clear hav hb h0 h1 h2 h3 h4 h5 h6 h7 h8 c0 c1 c2 HS2
 obtain ⟨⟨y0,y1,y2,y3,y4,y5,y6,y7,y8⟩,yz⟩:=zero_block HS5.out.res
 have HBE:=Lib.hid (below_set9 HS5.out.bel (show w.heap.size<=w.heap.size+2 by omega) (sv h') (.int .i64 p'.k) (sv p'.b) (.int .i64 p'.bn) (sv p'.s) (sv p'.i) (sv p'.f) (sv p'.c) (sv p'.x))
 have HRE:=Lib.hid (set9_block HS5.out.res (sv h') (.int .i64 p'.k) (sv p'.b) (.int .i64 p'.bn) (sv p'.s) (sv p'.i) (sv p'.f) (sv p'.c) (sv p'.x))
 go_wp2
 refine bodyPost_ret (v := .tuple #[arrV h' p',.bool true]) ?_ rfl (oaR_yes HAV.out HBE.out)
 exact ret_arr2 (fn:=Tryz.f47) (p:=8) (u:=9) rfl _ _ (w.heap.size+2) (by rfl) HRE.out
theorem chain_11_ok {Ha:Nat->Prop}{a:PA}{h:Sl}{p:V8} (w:World) (g:AV Ha w a h p) (hHa:∀ b,Ha b->b < w.heap.size) (o most:Nat) (hn:0 < a.len) (hm:a.len<=most) (hl:a.len<=1000000) :
  Calls Tryz.prog 47 #[.agg #[.int .i64 1,.int .i32 8835,.int .i32 44],arrV h p,.int .i64 (o:Int),.int .i64 (most:Int)] w (OaR Ha w (some (partA a 0))):=by
 have HS0:=Lib.hid (ChX.new w 8835 44 h p)
 have HL:=Lib.hid (fun W (hb:Below w.heap.size w W)=>av_len g W hb)
 have HH:=Lib.hid hHa
 have hrk:h.2.1=a.shape.length:=g.shape.len
 have hn1:¬ (most:Int) < (a.len:Int):=by omega
 have hn0:((a.len:Int)==0)=false:=beq_eq_false_iff_ne.2 (by omega)
 have HMO:=Lib.hid hm
 have HNO:=Lib.hid hn
 have g2:AV (fun b=>Ha b\/b=w.heap.size+2) w a h p:=AV.sub (fun b hb e=>by rcases e with e | e;exact e;omega) g
 have HP:=Lib.hid (fun W (hb:Below w.heap.size w W) (hz:w.heap.size+2 < W.heap.size)=>epart_any W (AV.step g2 hb) (fun b e=>by rcases e with e | e;have:=hHa b e;have:=hb.size;omega;omega) 0 (by omega) hl)
 unfold AaR at HP
 clear hrk hHa g g2 hm
 go_enter Tryz.func47,Tryz.ntmps47
 obtain ⟨h0,h1,h2,h3,h4,h5,h6,h7,h8⟩:=HS0.out.arr.c
 obtain ⟨c0,c1,c2⟩:_/\_/\_:=⟨HS0.out.ph.1 0,HS0.out.ph.1 1,HS0.out.ph.1 2⟩
 go_wp2_with fail
 refine (HL.out _ HS0.out.bel).mono ?_
 rintro e w2 ⟨rfl,hb⟩
 have HS2:=Lib.hid (HS0.out.step hb)
 clear hb HS0 h0 h1 h2 h3 h4 h5 h6 h7 h8 c0 c1 c2
 obtain ⟨h0,h1,h2,h3,h4,h5,h6,h7,h8⟩:=HS2.out.arr.c
 obtain ⟨c0,c1,c2⟩:_/\_/\_:=⟨HS2.out.ph.1 0,HS2.out.ph.1 1,HS2.out.ph.1 2⟩
 go_wp2_with fail
 refine (HP.out _ HS2.out.bel (lt_blk HS2.out.res)).mono ?_
 rintro e w5 ⟨h',p',rfl,hav,hb⟩
 have HS5:=Lib.hid (HS2.out.step hb)
 have HAV:Hid (AV Ha (set9 w5 (w.heap.size+2) (sv h') (.int .i64 p'.k) (sv p'.b) (.int .i64 p'.bn) (sv p'.s) (sv p'.i) (sv p'.f) (sv p'.c) (sv p'.x)) (partA a 0) h' p'):=AV.sub (fun b _ e => .inl e) (AV.lat (Lat.set9 (G:=w.heap.size+2) (.inr rfl) _ _ _ _ _ _ _ _ _) hav)
 clear hav hb h0 h1 h2 h3 h4 h5 h6 h7 h8 c0 c1 c2 HS2
 obtain ⟨⟨y0,y1,y2,y3,y4,y5,y6,y7,y8⟩,yz⟩:=zero_block HS5.out.res
 have HBE:=Lib.hid (below_set9 HS5.out.bel (show w.heap.size<=w.heap.size+2 by omega) (sv h') (.int .i64 p'.k) (sv p'.b) (.int .i64 p'.bn) (sv p'.s) (sv p'.i) (sv p'.f) (sv p'.c) (sv p'.x))
 have HRE:=Lib.hid (set9_block HS5.out.res (sv h') (.int .i64 p'.k) (sv p'.b) (.int .i64 p'.bn) (sv p'.s) (sv p'.i) (sv p'.f) (sv p'.c) (sv p'.x))
 go_wp2
 refine bodyPost_ret (v := .tuple #[arrV h' p',.bool true]) ?_ rfl (oaR_yes HAV.out HBE.out)
 exact ret_arr2 (fn:=Tryz.f47) (p:=8) (u:=9) rfl _ _ (w.heap.size+2) (by rfl) HRE.out
theorem chain_1_ok {Ha:Nat->Prop}{a:PA}{h:Sl}{p:V8} (w:World) (g:AV Ha w a h p) (hHa:∀ b,Ha b->b < w.heap.size) (o most:Nat) (hn:0 < a.len) (hm:a.len<=most) (d:Nat) (hgd:GoodA d a) (hr:0 < a.shape.length) (hr2:a.shape.length<=most) :
  Calls Tryz.prog 47 #[.agg #[.int .i64 1,.int .i32 8835,.int .i32 9076],arrV h p,.int .i64 (o:Int),.int .i64 (most:Int)] w (OaR Ha w (some (oneA (a.shape.getD 0 0:Nat)))):=by
 obtain ⟨A,n9,c9,he9,hn9,hcell⟩:=map_open g.shape.now
 obtain ⟨b9,o9,hA9,hce⟩:=hcell 0 hr
 have hs0:a.shape[0]=a.shape.getD 0 0:=by simp [List.getD,hr]
 have hsb:a.shape.getD 0 0<=1048576:=by rw [<- hs0];exact Nat.le_trans (prod1_elem hr) hgd.sh.2.2.1
 rw [hs0,Nat.add_zero] at hce
 have hrk0:h.2.1=a.shape.length:=g.shape.len
 obtain ⟨hA,hnn,hcc⟩:=h
 injection he9 with e1 e2 e3
 subst hA9
 dsimp only at e1 e2 hrk0
 subst e1
 have HCE:=Lib.hid hce
 have hr0:(0:Int) < (hnn:Int):=by omega
 have hr3:(hnn:Int)<=(most:Int):=by omega
 have hr4:0 < hnn:=by omega
 clear hcell hce hs0 e2 e3 hn9
 generalize a.shape.getD 0 0=s0 at *
 have HS0:=Lib.hid (ChX.new w 8835 9076 (some ⟨b9,o9,none⟩,hnn,hcc) p)
 have HL:=Lib.hid (fun W (hb:Below w.heap.size w W)=>av_len g W hb)
 have HH:=Lib.hid hHa
 have hn1:¬ (most:Int) < (a.len:Int):=by omega
 have hn0:((a.len:Int)==0)=false:=beq_eq_false_iff_ne.2 (by omega)
 have HMO:=Lib.hid hm
 have HNO:=Lib.hid hn
 clear hrk0 hHa g hm hn hr hr2 hgd
 go_enter Tryz.func47,Tryz.ntmps47
 obtain ⟨h0,h1,h2,h3,h4,h5,h6,h7,h8⟩:=HS0.out.arr.c
 obtain ⟨c0,c1,c2⟩:_/\_/\_:=⟨HS0.out.ph.1 0,HS0.out.ph.1 1,HS0.out.ph.1 2⟩
 go_wp2_with fail
 refine (HL.out _ HS0.out.bel).mono ?_
 rintro e w2 ⟨rfl,hb⟩
 have HS2:=Lib.hid (HS0.out.step hb)
 clear hb HS0 h0 h1 h2 h3 h4 h5 h6 h7 h8 c0 c1 c2
 obtain ⟨h0,h1,h2,h3,h4,h5,h6,h7,h8⟩:=HS2.out.arr.c
 obtain ⟨c0,c1,c2⟩:_/\_/\_:=⟨HS2.out.ph.1 0,HS2.out.ph.1 1,HS2.out.ph.1 2⟩
 have ce:=cell_up HS2.out.bel HCE.out
 have HWH:=Lib.hid (whl_any (s0:Nat) (by constructor <;> omega) (fun b=>Ha b\/b=w.heap.size+2) _ (fun b e=>hole2 HH.out HS2.out b e))
 unfold AaR at HWH
 go_wp2_with fail
 refine HWH.out.mono ?_
 rintro e w5 ⟨h',p',rfl,hav,hb⟩
 clear HWH
 have HS5:=Lib.hid (HS2.out.step hb)
 have HAV:Hid (AV Ha (set9 w5 (w.heap.size+2) (sv h') (.int .i64 p'.k) (sv p'.b) (.int .i64 p'.bn) (sv p'.s) (sv p'.i) (sv p'.f) (sv p'.c) (sv p'.x)) (oneA (s0:Nat)) h' p'):=AV.sub (fun b _ e => .inl e) (AV.lat (Lat.set9 (G:=w.heap.size+2) (.inr rfl) _ _ _ _ _ _ _ _ _) hav)
 clear hav hb h0 h1 h2 h3 h4 h5 h6 h7 h8 c0 c1 c2 ce HS2
 obtain ⟨⟨y0,y1,y2,y3,y4,y5,y6,y7,y8⟩,yz⟩:=zero_block HS5.out.res
 have HBE:=Lib.hid (below_set9 HS5.out.bel (show w.heap.size<=w.heap.size+2 by omega) (sv h') (.int .i64 p'.k) (sv p'.b) (.int .i64 p'.bn) (sv p'.s) (sv p'.i) (sv p'.f) (sv p'.c) (sv p'.x))
 have HRE:=Lib.hid (set9_block HS5.out.res (sv h') (.int .i64 p'.k) (sv p'.b) (.int .i64 p'.bn) (sv p'.s) (sv p'.i) (sv p'.f) (sv p'.c) (sv p'.x))
 go_wp2
 refine bodyPost_ret (v := .tuple #[arrV h' p',.bool true]) ?_ rfl (oaR_yes HAV.out HBE.out)
 exact ret_arr2 (fn:=Tryz.f47) (p:=8) (u:=9) rfl _ _ (w.heap.size+2) (by rfl) HRE.out
theorem chain_9_ok {Ha:Nat->Prop}{a:PA}{h:Sl}{p:V8} (w:World) (g:AV Ha w a h p) (hHa:∀ b,Ha b->b < w.heap.size) (o most:Nat) (hn:0 < a.len) (hm:a.len<=most) (hl:a.len<=1000000) :
  Calls Tryz.prog 47 #[.agg #[.int .i64 1,.int .i32 8802,.int .i32 44],arrV h p,.int .i64 (o:Int),.int .i64 (most:Int)] w (OaR Ha w (some (oneA (a.len:Nat)))):=by
 have HS0:=Lib.hid (ChX.new w 8802 44 h p)
 have HL:=Lib.hid (fun W (hb:Below w.heap.size w W)=>av_len g W hb)
 have HH:=Lib.hid hHa
 have hrk:h.2.1=a.shape.length:=g.shape.len
 have hn1:¬ (most:Int) < (a.len:Int):=by omega
 have hn0:((a.len:Int)==0)=false:=beq_eq_false_iff_ne.2 (by omega)
 have HMO:=Lib.hid hm
 have HNO:=Lib.hid hn
 clear hrk hHa g hm hn
 go_enter Tryz.func47,Tryz.ntmps47
 obtain ⟨h0,h1,h2,h3,h4,h5,h6,h7,h8⟩:=HS0.out.arr.c
 obtain ⟨c0,c1,c2⟩:_/\_/\_:=⟨HS0.out.ph.1 0,HS0.out.ph.1 1,HS0.out.ph.1 2⟩
 go_wp2_with fail
 refine (HL.out _ HS0.out.bel).mono ?_
 rintro e w2 ⟨rfl,hb⟩
 have HS2:=Lib.hid (HS0.out.step hb)
 clear hb HS0 h0 h1 h2 h3 h4 h5 h6 h7 h8 c0 c1 c2
 obtain ⟨h0,h1,h2,h3,h4,h5,h6,h7,h8⟩:=HS2.out.arr.c
 obtain ⟨c0,c1,c2⟩:_/\_/\_:=⟨HS2.out.ph.1 0,HS2.out.ph.1 1,HS2.out.ph.1 2⟩
 have HWH:=Lib.hid (whl_any (a.len:Nat) (by constructor <;> omega) (fun b=>Ha b\/b=w.heap.size+2) _ (fun b e=>hole2 HH.out HS2.out b e))
 unfold AaR at HWH
 go_wp2_with fail
 refine HWH.out.mono ?_
 rintro e w5 ⟨h',p',rfl,hav,hb⟩
 clear HWH
 have HS5:=Lib.hid (HS2.out.step hb)
 have HAV:Hid (AV Ha (set9 w5 (w.heap.size+2) (sv h') (.int .i64 p'.k) (sv p'.b) (.int .i64 p'.bn) (sv p'.s) (sv p'.i) (sv p'.f) (sv p'.c) (sv p'.x)) (oneA (a.len:Nat)) h' p'):=AV.sub (fun b _ e => .inl e) (AV.lat (Lat.set9 (G:=w.heap.size+2) (.inr rfl) _ _ _ _ _ _ _ _ _) hav)
 clear hav hb h0 h1 h2 h3 h4 h5 h6 h7 h8 c0 c1 c2 HS2
 obtain ⟨⟨y0,y1,y2,y3,y4,y5,y6,y7,y8⟩,yz⟩:=zero_block HS5.out.res
 have HBE:=Lib.hid (below_set9 HS5.out.bel (show w.heap.size<=w.heap.size+2 by omega) (sv h') (.int .i64 p'.k) (sv p'.b) (.int .i64 p'.bn) (sv p'.s) (sv p'.i) (sv p'.f) (sv p'.c) (sv p'.x))
 have HRE:=Lib.hid (set9_block HS5.out.res (sv h') (.int .i64 p'.k) (sv p'.b) (.int .i64 p'.bn) (sv p'.s) (sv p'.i) (sv p'.f) (sv p'.c) (sv p'.x))
 go_wp2
 refine bodyPost_ret (v := .tuple #[arrV h' p',.bool true]) ?_ rfl (oaR_yes HAV.out HBE.out)
 exact ret_arr2 (fn:=Tryz.f47) (p:=8) (u:=9) rfl _ _ (w.heap.size+2) (by rfl) HRE.out
theorem chain_7_ok {Ha:Nat->Prop}{a:PA}{h:Sl}{p:V8} (w:World) (g:AV Ha w a h p) (hHa:∀ b,Ha b->b < w.heap.size) (o most:Nat) (hn:0 < a.len) (hm:a.len<=most) (d:Nat) (hgd:GoodA d a) (hr:a.shape.length<=most) :
  Calls Tryz.prog 47 #[.agg #[.int .i64 1,.int .i32 8802,.int .i32 9076],arrV h p,.int .i64 (o:Int),.int .i64 (most:Int)] w (OaR Ha w (some (oneA (a.shape.length:Nat)))):=by
 have HS0:=Lib.hid (ChX.new w 8802 9076 h p)
 have HL:=Lib.hid (fun W (hb:Below w.heap.size w W)=>av_len g W hb)
 have HH:=Lib.hid hHa
 have hrk:h.2.1=a.shape.length:=g.shape.len
 have hn1:¬ (most:Int) < (a.len:Int):=by omega
 have hn0:((a.len:Int)==0)=false:=beq_eq_false_iff_ne.2 (by omega)
 have HMO:=Lib.hid hm
 have HNO:=Lib.hid hn
 have hr1:(h.2.1:Int)<=(most:Int):=by omega
 have HRK:=Lib.hid hrk
 have hrb:h.2.1<=8:=by rw [hrk];exact hgd.sh.2.1
 clear hrk hHa g hm hn hr hgd
 go_enter Tryz.func47,Tryz.ntmps47
 obtain ⟨h0,h1,h2,h3,h4,h5,h6,h7,h8⟩:=HS0.out.arr.c
 obtain ⟨c0,c1,c2⟩:_/\_/\_:=⟨HS0.out.ph.1 0,HS0.out.ph.1 1,HS0.out.ph.1 2⟩
 go_wp2_with fail
 refine (HL.out _ HS0.out.bel).mono ?_
 rintro e w2 ⟨rfl,hb⟩
 have HS2:=Lib.hid (HS0.out.step hb)
 clear hb HS0 h0 h1 h2 h3 h4 h5 h6 h7 h8 c0 c1 c2
 obtain ⟨h0,h1,h2,h3,h4,h5,h6,h7,h8⟩:=HS2.out.arr.c
 obtain ⟨c0,c1,c2⟩:_/\_/\_:=⟨HS2.out.ph.1 0,HS2.out.ph.1 1,HS2.out.ph.1 2⟩
 have HWH:=Lib.hid (whl_any (h.2.1:Nat) (by constructor <;> omega) (fun b=>Ha b\/b=w.heap.size+2) _ (fun b e=>hole2 HH.out HS2.out b e))
 unfold AaR at HWH
 go_wp2_with fail
 refine HWH.out.mono ?_
 rintro e w5 ⟨h',p',rfl,hav,hb⟩
 clear HWH
 rw [HRK.out] at hav
 have HS5:=Lib.hid (HS2.out.step hb)
 have HAV:Hid (AV Ha (set9 w5 (w.heap.size+2) (sv h') (.int .i64 p'.k) (sv p'.b) (.int .i64 p'.bn) (sv p'.s) (sv p'.i) (sv p'.f) (sv p'.c) (sv p'.x)) (oneA (a.shape.length:Nat)) h' p'):=AV.sub (fun b _ e => .inl e) (AV.lat (Lat.set9 (G:=w.heap.size+2) (.inr rfl) _ _ _ _ _ _ _ _ _) hav)
 clear hav hb h0 h1 h2 h3 h4 h5 h6 h7 h8 c0 c1 c2 HS2
 obtain ⟨⟨y0,y1,y2,y3,y4,y5,y6,y7,y8⟩,yz⟩:=zero_block HS5.out.res
 have HBE:=Lib.hid (below_set9 HS5.out.bel (show w.heap.size<=w.heap.size+2 by omega) (sv h') (.int .i64 p'.k) (sv p'.b) (.int .i64 p'.bn) (sv p'.s) (sv p'.i) (sv p'.f) (sv p'.c) (sv p'.x))
 have HRE:=Lib.hid (set9_block HS5.out.res (sv h') (.int .i64 p'.k) (sv p'.b) (.int .i64 p'.bn) (sv p'.s) (sv p'.i) (sv p'.f) (sv p'.c) (sv p'.x))
 go_wp2
 refine bodyPost_ret (v := .tuple #[arrV h' p',.bool true]) ?_ rfl (oaR_yes HAV.out HBE.out)
 exact ret_arr2 (fn:=Tryz.f47) (p:=8) (u:=9) rfl _ _ (w.heap.size+2) (by rfl) HRE.out
theorem chain_8_ok {Ha:Nat->Prop}{a:PA}{h:Sl}{p:V8} (w:World) (g:AV Ha w a h p) (hHa:∀ b,Ha b->b < w.heap.size) (o most:Nat) (hn:0 < a.len) (hm:a.len<=most) (d:Nat) (hgd:GoodA d a) (hr:a.shape.length<=most) :
  Calls Tryz.prog 47 #[.agg #[.int .i64 1,.int .i32 9076,.int .i32 9076],arrV h p,.int .i64 (o:Int),.int .i64 (most:Int)] w (OaR Ha w (some (listA [(a.shape.length:Nat)]))):=by
 have HS0:=Lib.hid (ChX.new w 9076 9076 h p)
 have HL:=Lib.hid (fun W (hb:Below w.heap.size w W)=>av_len g W hb)
 have HH:=Lib.hid hHa
 have hrk:h.2.1=a.shape.length:=g.shape.len
 have hn1:¬ (most:Int) < (a.len:Int):=by omega
 have hn0:((a.len:Int)==0)=false:=beq_eq_false_iff_ne.2 (by omega)
 have HMO:=Lib.hid hm
 have HNO:=Lib.hid hn
 have hr1:(h.2.1:Int)<=(most:Int):=by omega
 have HRK:=Lib.hid hrk
 have hrb:h.2.1<=8:=by rw [hrk];exact hgd.sh.2.1
 have hm0:(most:Int) > 0:=by omega
 clear hrk hHa g hm hn hr hgd
 go_enter Tryz.func47,Tryz.ntmps47
 obtain ⟨h0,h1,h2,h3,h4,h5,h6,h7,h8⟩:=HS0.out.arr.c
 obtain ⟨c0,c1,c2⟩:_/\_/\_:=⟨HS0.out.ph.1 0,HS0.out.ph.1 1,HS0.out.ph.1 2⟩
 go_wp2_with fail
 refine (HL.out _ HS0.out.bel).mono ?_
 rintro e w2 ⟨rfl,hb⟩
 have HS2:=Lib.hid (HS0.out.step hb)
 clear hb HS0 h0 h1 h2 h3 h4 h5 h6 h7 h8 c0 c1 c2
 obtain ⟨h0,h1,h2,h3,h4,h5,h6,h7,h8⟩:=HS2.out.arr.c
 obtain ⟨c0,c1,c2⟩:_/\_/\_:=⟨HS2.out.ph.1 0,HS2.out.ph.1 1,HS2.out.ph.1 2⟩
 have HWH:=Lib.hid (whl_any (h.2.1:Nat) (by constructor <;> omega) (fun b=>Ha b\/b=w.heap.size+2) _ (fun b e=>hole2 HH.out HS2.out b e))
 unfold AaR at HWH
 go_wp2_with fail
 refine HWH.out.mono ?_
 rintro e w4 ⟨h4',p4,rfl,hav,hb⟩
 have HS4:=Lib.hid (HS2.out.step hb)
 have HNV:Hid (Keeps (fun b=>Ha b\/b=w.heap.size+2) w4 (NumV p4.v p4.k 1 (fun j=>[fi ((h.2.1:Nat):Int)].getD j 0))):=by
  rcases hav.nums with e | ⟨e,_⟩
  ·exact e.num
  ·cases e
 have HLI:=Lib.hid (vlist_any w4 (fun b e=>hole2 HH.out HS4.out b e) (by decide) HNV.out)
 unfold AaN at HLI
 clear HWH hav hb HS2 h0 h1 h2 h3 h4 h5 h6 h7 h8 c0 c1 c2
 have hfd:∀ W:World,(Instr.field 59 (arrV h4' p4) 1).run Tryz.prog W= .ok p4.v W:=fun _=>by kernel_rfl
 go_wp2_with fail
 refine HLI.out.mono ?_
 rintro e w5 ⟨h',p',rfl,hav9,hb⟩
 have hav:AV (fun b=>Ha b\/b=w.heap.size+2) w5 (listA [((a.shape.length:Nat):Int)]) h' p':=by rw [<- HRK.out];exact hav9.1
 clear hav9 HLI HNV
 have HS5:=Lib.hid (HS4.out.step hb)
 have HAV:Hid (AV Ha (set9 w5 (w.heap.size+2) (sv h') (.int .i64 p'.k) (sv p'.b) (.int .i64 p'.bn) (sv p'.s) (sv p'.i) (sv p'.f) (sv p'.c) (sv p'.x)) (listA [((a.shape.length:Nat):Int)]) h' p'):=AV.sub (fun b _ e => .inl e) (AV.lat (Lat.set9 (G:=w.heap.size+2) (.inr rfl) _ _ _ _ _ _ _ _ _) hav)
 clear hav hb HS4
 obtain ⟨⟨y0,y1,y2,y3,y4,y5,y6,y7,y8⟩,yz⟩:=zero_block HS5.out.res
 have HBE:=Lib.hid (below_set9 HS5.out.bel (show w.heap.size<=w.heap.size+2 by omega) (sv h') (.int .i64 p'.k) (sv p'.b) (.int .i64 p'.bn) (sv p'.s) (sv p'.i) (sv p'.f) (sv p'.c) (sv p'.x))
 have HRE:=Lib.hid (set9_block HS5.out.res (sv h') (.int .i64 p'.k) (sv p'.b) (.int .i64 p'.bn) (sv p'.s) (sv p'.i) (sv p'.f) (sv p'.c) (sv p'.x))
 go_wp2
 refine bodyPost_ret (v := .tuple #[arrV h' p',.bool true]) ?_ rfl (oaR_yes HAV.out HBE.out)
 exact ret_arr2 (fn:=Tryz.f47) (p:=8) (u:=9) rfl _ _ (w.heap.size+2) (by rfl) HRE.out
theorem chain_5_ok {Ha:Nat->Prop}{a:PA}{h:Sl}{p:V8} (w:World) (g:AV Ha w a h p) (hHa:∀ b,Ha b->b < w.heap.size) (o most:Nat) (hn:0 < a.len) (hm:a.len<=most) (hl:a.len<=1000000) (d:Nat) (hgd:GoodA (d+1) a) (hsm:SmA 1000000 a) (hr:a.shape.length<=1) :
  Calls Tryz.prog 47 #[.agg #[.int .i64 1,.int .i32 8802,.int .i32 8746],arrV h p,.int .i64 (o:Int),.int .i64 (most:Int)] w (OaR Ha w (some (oneA ((fstsL a a.len).length:Nat)))):=by
 have HS0:=Lib.hid (ChX.new w 8802 8746 h p)
 have HL:=Lib.hid (fun W (hb:Below w.heap.size w W)=>av_len g W hb)
 have HH:=Lib.hid hHa
 have hrk:h.2.1=a.shape.length:=g.shape.len
 have hn1:¬ (most:Int) < (a.len:Int):=by omega
 have hn0:((a.len:Int)==0)=false:=beq_eq_false_iff_ne.2 (by omega)
 have HMO:=Lib.hid hm
 have HNO:=Lib.hid hn
 have hr1:(h.2.1:Int)<=1:=by omega
 have HFS:=Lib.hid (fun W (hb:Below w.heap.size w W)=>firsts_any d hgd hsm hl W (AV.step g hb))
 unfold FsR at HFS
 clear hrk hHa g hm hn hr hgd hsm
 go_enter Tryz.func47,Tryz.ntmps47
 obtain ⟨h0,h1,h2,h3,h4,h5,h6,h7,h8⟩:=HS0.out.arr.c
 obtain ⟨c0,c1,c2⟩:_/\_/\_:=⟨HS0.out.ph.1 0,HS0.out.ph.1 1,HS0.out.ph.1 2⟩
 go_wp2_with fail
 refine (HL.out _ HS0.out.bel).mono ?_
 rintro e w2 ⟨rfl,hb⟩
 have HS2:=Lib.hid (HS0.out.step hb)
 clear hb HS0 h0 h1 h2 h3 h4 h5 h6 h7 h8 c0 c1 c2
 obtain ⟨h0,h1,h2,h3,h4,h5,h6,h7,h8⟩:=HS2.out.arr.c
 obtain ⟨c0,c1,c2⟩:_/\_/\_:=⟨HS2.out.ph.1 0,HS2.out.ph.1 1,HS2.out.ph.1 2⟩
 go_wp2_with fail
 refine (HFS.out _ HS2.out.bel).mono ?_
 rintro e w4 ⟨fA,fn,fc,rfl,hown,hb⟩
 have hfn:fn=(fstsL a a.len).length:=by
  obtain ⟨A9,c9,e9⟩:=hown.reads.len
  injection e9 with _ e9 _
  rw [e9,List.length_map]
 have hfl:fn<=1000000:=by rw [hfn];have:=fstsL_le a a.len;omega
 have HFN:=Lib.hid hfn
 have HS4:=Lib.hid (HS2.out.step hb)
 clear hown hb hfn HFS HS2 h0 h1 h2 h3 h4 h5 h6 h7 h8 c0 c1 c2
 obtain ⟨h0,h1,h2,h3,h4,h5,h6,h7,h8⟩:=HS4.out.arr.c
 obtain ⟨c0,c1,c2⟩:_/\_/\_:=⟨HS4.out.ph.1 0,HS4.out.ph.1 1,HS4.out.ph.1 2⟩
 have HWH:=Lib.hid (whl_any (fn:Nat) (by constructor <;> omega) (fun b=>Ha b\/b=w.heap.size+2) _ (fun b e=>hole2 HH.out HS4.out b e))
 unfold AaR at HWH
 go_wp2_with fail
 refine HWH.out.mono ?_
 rintro e w5 ⟨h',p',rfl,hav,hb⟩
 clear HWH
 rw [HFN.out] at hav
 have HS5:=Lib.hid (HS4.out.step hb)
 have HAV:Hid (AV Ha (set9 w5 (w.heap.size+2) (sv h') (.int .i64 p'.k) (sv p'.b) (.int .i64 p'.bn) (sv p'.s) (sv p'.i) (sv p'.f) (sv p'.c) (sv p'.x)) (oneA ((fstsL a a.len).length:Nat)) h' p'):=AV.sub (fun b _ e => .inl e) (AV.lat (Lat.set9 (G:=w.heap.size+2) (.inr rfl) _ _ _ _ _ _ _ _ _) hav)
 clear hav hb h0 h1 h2 h3 h4 h5 h6 h7 h8 c0 c1 c2 HS4
 obtain ⟨⟨y0,y1,y2,y3,y4,y5,y6,y7,y8⟩,yz⟩:=zero_block HS5.out.res
 have HBE:=Lib.hid (below_set9 HS5.out.bel (show w.heap.size<=w.heap.size+2 by omega) (sv h') (.int .i64 p'.k) (sv p'.b) (.int .i64 p'.bn) (sv p'.s) (sv p'.i) (sv p'.f) (sv p'.c) (sv p'.x))
 have HRE:=Lib.hid (set9_block HS5.out.res (sv h') (.int .i64 p'.k) (sv p'.b) (.int .i64 p'.bn) (sv p'.s) (sv p'.i) (sv p'.f) (sv p'.c) (sv p'.x))
 go_wp2
 refine bodyPost_ret (v := .tuple #[arrV h' p',.bool true]) ?_ rfl (oaR_yes HAV.out HBE.out)
 exact ret_arr2 (fn:=Tryz.f47) (p:=8) (u:=9) rfl _ _ (w.heap.size+2) (by rfl) HRE.out
theorem chain_0_else {Ha:Nat->Prop}{a:PA}{h:Sl}{p:V8} (w:World) (g:AV Ha w a h p) (hHa:∀ b,Ha b->b < w.heap.size) (o most:Nat) (hn:0 < a.len) (hm:a.len<=most) (hr:¬ a.shape.length=1) (r:Option PA) (hlg:∀ W,Below w.heap.size w W->w.heap.size+2 < W.heap.size->Calls Tryz.prog 98 #[.agg #[.int .i64 1,.int .i32 8835,.int .i32 9021],arrV h p,.int .i64 (o:Int),.int .i64 (most:Int)] W (OaR (fun b=>Ha b\/b=w.heap.size+2) W r)) :
  Calls Tryz.prog 47 #[.agg #[.int .i64 1,.int .i32 8835,.int .i32 9021],arrV h p,.int .i64 (o:Int),.int .i64 (most:Int)] w (OaR Ha w r):=by
 have HS0:=Lib.hid (ChX.new w 8835 9021 h p)
 have HL:=Lib.hid (fun W (hb:Below w.heap.size w W)=>av_len g W hb)
 have HH:=Lib.hid hHa
 have hrk:h.2.1=a.shape.length:=g.shape.len
 have hn1:¬ (most:Int) < (a.len:Int):=by omega
 have hn0:((a.len:Int)==0)=false:=beq_eq_false_iff_ne.2 (by omega)
 have HMO:=Lib.hid hm
 have HNO:=Lib.hid hn
 have HLG:=Lib.hid hlg
 have hr1:((h.2.1:Int)==1)=false:=by rw [hrk];exact beq_eq_false_iff_ne.2 (by omega)
 clear hrk hHa g hm hn hr hlg
 go_enter Tryz.func47,Tryz.ntmps47
 obtain ⟨h0,h1,h2,h3,h4,h5,h6,h7,h8⟩:=HS0.out.arr.c
 obtain ⟨c0,c1,c2⟩:_/\_/\_:=⟨HS0.out.ph.1 0,HS0.out.ph.1 1,HS0.out.ph.1 2⟩
 go_wp2_with fail
 refine (HL.out _ HS0.out.bel).mono ?_
 rintro e w2 ⟨rfl,hb⟩
 have HS2:=Lib.hid (HS0.out.step hb)
 clear hb HS0 h0 h1 h2 h3 h4 h5 h6 h7 h8 c0 c1 c2
 obtain ⟨h0,h1,h2,h3,h4,h5,h6,h7,h8⟩:=HS2.out.arr.c
 obtain ⟨c0,c1,c2⟩:_/\_/\_:=⟨HS2.out.ph.1 0,HS2.out.ph.1 1,HS2.out.ph.1 2⟩
 cases r with
 | none =>
  unfold OaR at HLG
  dsimp only at HLG
  go_wp2_with fail
  refine (HLG.out _ HS2.out.bel (lt_blk HS2.out.res)).mono ?_
  rintro e w5 ⟨rfl,hb⟩
  have HS5:=Lib.hid (HS2.out.step hb)
  clear hb HLG HS2 h0 h1 h2 h3 h4 h5 h6 h7 h8 c0 c1 c2
  have HBE:=Lib.hid (below_set9 HS5.out.bel (show w.heap.size<=w.heap.size+2 by omega) (.slice none 0 0) (.int .i64 0) (.slice none 0 0) (.int .i64 0) (.slice none 0 0) (.slice none 0 0) (.slice none 0 0) (.slice none 0 0) (.slice none 0 0))
  have HRE:=Lib.hid (set9_block HS5.out.res (.slice none 0 0) (.int .i64 0) (.slice none 0 0) (.int .i64 0) (.slice none 0 0) (.slice none 0 0) (.slice none 0 0) (.slice none 0 0) (.slice none 0 0))
  obtain ⟨⟨y0,y1,y2,y3,y4,y5,y6,y7,y8⟩,yz⟩:=zero_block HS5.out.res
  go_wp2
  refine bodyPost_ret (v := .tuple #[arrV nilS zeroP,.bool false]) ?_ rfl (oaR_no HBE.out)
  exact ret_arr2 (fn:=Tryz.f47) (p:=8) (u:=9) rfl _ _ (w.heap.size+2) (by rfl) HRE.out
 | some a9 =>
  unfold OaR at HLG
  dsimp only at HLG
  go_wp2_with fail
  refine (HLG.out _ HS2.out.bel (lt_blk HS2.out.res)).mono ?_
  rintro e w5 ⟨h',p',rfl,hav,hb⟩
  clear HLG
  have HS5:=Lib.hid (HS2.out.step hb)
  have HAV:Hid (AV Ha (set9 w5 (w.heap.size+2) (sv h') (.int .i64 p'.k) (sv p'.b) (.int .i64 p'.bn) (sv p'.s) (sv p'.i) (sv p'.f) (sv p'.c) (sv p'.x)) a9 h' p'):=AV.sub (fun b _ e => .inl e) (AV.lat (Lat.set9 (G:=w.heap.size+2) (.inr rfl) _ _ _ _ _ _ _ _ _) hav)
  clear hav hb h0 h1 h2 h3 h4 h5 h6 h7 h8 c0 c1 c2 HS2
  obtain ⟨⟨y0,y1,y2,y3,y4,y5,y6,y7,y8⟩,yz⟩:=zero_block HS5.out.res
  have HBE:=Lib.hid (below_set9 HS5.out.bel (show w.heap.size<=w.heap.size+2 by omega) (sv h') (.int .i64 p'.k) (sv p'.b) (.int .i64 p'.bn) (sv p'.s) (sv p'.i) (sv p'.f) (sv p'.c) (sv p'.x))
  have HRE:=Lib.hid (set9_block HS5.out.res (sv h') (.int .i64 p'.k) (sv p'.b) (.int .i64 p'.bn) (sv p'.s) (sv p'.i) (sv p'.f) (sv p'.c) (sv p'.x))
  go_wp2
  refine bodyPost_ret (v := .tuple #[arrV h' p',.bool true]) ?_ rfl (oaR_yes HAV.out HBE.out)
  exact ret_arr2 (fn:=Tryz.f47) (p:=8) (u:=9) rfl _ _ (w.heap.size+2) (by rfl) HRE.out
theorem chain_1a_else {Ha:Nat->Prop}{a:PA}{h:Sl}{p:V8} (w:World) (g:AV Ha w a h p) (hHa:∀ b,Ha b->b < w.heap.size) (o most:Nat) (hn:0 < a.len) (hm:a.len<=most) (hr:a.shape.length=0) (r:Option PA) (hlg:∀ W,Below w.heap.size w W->w.heap.size+2 < W.heap.size->Calls Tryz.prog 98 #[.agg #[.int .i64 1,.int .i32 8835,.int .i32 9076],arrV h p,.int .i64 (o:Int),.int .i64 (most:Int)] W (OaR (fun b=>Ha b\/b=w.heap.size+2) W r)) :
  Calls Tryz.prog 47 #[.agg #[.int .i64 1,.int .i32 8835,.int .i32 9076],arrV h p,.int .i64 (o:Int),.int .i64 (most:Int)] w (OaR Ha w r):=by
 have HS0:=Lib.hid (ChX.new w 8835 9076 h p)
 have HL:=Lib.hid (fun W (hb:Below w.heap.size w W)=>av_len g W hb)
 have HH:=Lib.hid hHa
 have hrk:h.2.1=a.shape.length:=g.shape.len
 have hn1:¬ (most:Int) < (a.len:Int):=by omega
 have hn0:((a.len:Int)==0)=false:=beq_eq_false_iff_ne.2 (by omega)
 have HMO:=Lib.hid hm
 have HNO:=Lib.hid hn
 have HLG:=Lib.hid hlg
 have hr1:¬ (h.2.1:Int) > 0:=by omega
 clear hrk hHa g hm hn hr hlg
 go_enter Tryz.func47,Tryz.ntmps47
 obtain ⟨h0,h1,h2,h3,h4,h5,h6,h7,h8⟩:=HS0.out.arr.c
 obtain ⟨c0,c1,c2⟩:_/\_/\_:=⟨HS0.out.ph.1 0,HS0.out.ph.1 1,HS0.out.ph.1 2⟩
 go_wp2_with fail
 refine (HL.out _ HS0.out.bel).mono ?_
 rintro e w2 ⟨rfl,hb⟩
 have HS2:=Lib.hid (HS0.out.step hb)
 clear hb HS0 h0 h1 h2 h3 h4 h5 h6 h7 h8 c0 c1 c2
 obtain ⟨h0,h1,h2,h3,h4,h5,h6,h7,h8⟩:=HS2.out.arr.c
 obtain ⟨c0,c1,c2⟩:_/\_/\_:=⟨HS2.out.ph.1 0,HS2.out.ph.1 1,HS2.out.ph.1 2⟩
 cases r with
 | none =>
  unfold OaR at HLG
  dsimp only at HLG
  go_wp2_with fail
  refine (HLG.out _ HS2.out.bel (lt_blk HS2.out.res)).mono ?_
  rintro e w5 ⟨rfl,hb⟩
  have HS5:=Lib.hid (HS2.out.step hb)
  clear hb HLG HS2 h0 h1 h2 h3 h4 h5 h6 h7 h8 c0 c1 c2
  have HBE:=Lib.hid (below_set9 HS5.out.bel (show w.heap.size<=w.heap.size+2 by omega) (.slice none 0 0) (.int .i64 0) (.slice none 0 0) (.int .i64 0) (.slice none 0 0) (.slice none 0 0) (.slice none 0 0) (.slice none 0 0) (.slice none 0 0))
  have HRE:=Lib.hid (set9_block HS5.out.res (.slice none 0 0) (.int .i64 0) (.slice none 0 0) (.int .i64 0) (.slice none 0 0) (.slice none 0 0) (.slice none 0 0) (.slice none 0 0) (.slice none 0 0))
  obtain ⟨⟨y0,y1,y2,y3,y4,y5,y6,y7,y8⟩,yz⟩:=zero_block HS5.out.res
  go_wp2
  refine bodyPost_ret (v := .tuple #[arrV nilS zeroP,.bool false]) ?_ rfl (oaR_no HBE.out)
  exact ret_arr2 (fn:=Tryz.f47) (p:=8) (u:=9) rfl _ _ (w.heap.size+2) (by rfl) HRE.out
 | some a9 =>
  unfold OaR at HLG
  dsimp only at HLG
  go_wp2_with fail
  refine (HLG.out _ HS2.out.bel (lt_blk HS2.out.res)).mono ?_
  rintro e w5 ⟨h',p',rfl,hav,hb⟩
  clear HLG
  have HS5:=Lib.hid (HS2.out.step hb)
  have HAV:Hid (AV Ha (set9 w5 (w.heap.size+2) (sv h') (.int .i64 p'.k) (sv p'.b) (.int .i64 p'.bn) (sv p'.s) (sv p'.i) (sv p'.f) (sv p'.c) (sv p'.x)) a9 h' p'):=AV.sub (fun b _ e => .inl e) (AV.lat (Lat.set9 (G:=w.heap.size+2) (.inr rfl) _ _ _ _ _ _ _ _ _) hav)
  clear hav hb h0 h1 h2 h3 h4 h5 h6 h7 h8 c0 c1 c2 HS2
  obtain ⟨⟨y0,y1,y2,y3,y4,y5,y6,y7,y8⟩,yz⟩:=zero_block HS5.out.res
  have HBE:=Lib.hid (below_set9 HS5.out.bel (show w.heap.size<=w.heap.size+2 by omega) (sv h') (.int .i64 p'.k) (sv p'.b) (.int .i64 p'.bn) (sv p'.s) (sv p'.i) (sv p'.f) (sv p'.c) (sv p'.x))
  have HRE:=Lib.hid (set9_block HS5.out.res (sv h') (.int .i64 p'.k) (sv p'.b) (.int .i64 p'.bn) (sv p'.s) (sv p'.i) (sv p'.f) (sv p'.c) (sv p'.x))
  go_wp2
  refine bodyPost_ret (v := .tuple #[arrV h' p',.bool true]) ?_ rfl (oaR_yes HAV.out HBE.out)
  exact ret_arr2 (fn:=Tryz.f47) (p:=8) (u:=9) rfl _ _ (w.heap.size+2) (by rfl) HRE.out
theorem chain_1b_else {Ha:Nat->Prop}{a:PA}{h:Sl}{p:V8} (w:World) (g:AV Ha w a h p) (hHa:∀ b,Ha b->b < w.heap.size) (o most:Nat) (hn:0 < a.len) (hm:a.len<=most) (hr:0 < a.shape.length) (hr2:¬ a.shape.length<=most) (r:Option PA) (hlg:∀ W,Below w.heap.size w W->w.heap.size+2 < W.heap.size->Calls Tryz.prog 98 #[.agg #[.int .i64 1,.int .i32 8835,.int .i32 9076],arrV h p,.int .i64 (o:Int),.int .i64 (most:Int)] W (OaR (fun b=>Ha b\/b=w.heap.size+2) W r)) :
  Calls Tryz.prog 47 #[.agg #[.int .i64 1,.int .i32 8835,.int .i32 9076],arrV h p,.int .i64 (o:Int),.int .i64 (most:Int)] w (OaR Ha w r):=by
 have HS0:=Lib.hid (ChX.new w 8835 9076 h p)
 have HL:=Lib.hid (fun W (hb:Below w.heap.size w W)=>av_len g W hb)
 have HH:=Lib.hid hHa
 have hrk:h.2.1=a.shape.length:=g.shape.len
 have hn1:¬ (most:Int) < (a.len:Int):=by omega
 have hn0:((a.len:Int)==0)=false:=beq_eq_false_iff_ne.2 (by omega)
 have HMO:=Lib.hid hm
 have HNO:=Lib.hid hn
 have HLG:=Lib.hid hlg
 have hr1:(h.2.1:Int) > 0:=by omega
 have hr3:¬ (h.2.1:Int)<=(most:Int):=by omega
 clear hrk hHa g hm hn hr hr2 hlg
 go_enter Tryz.func47,Tryz.ntmps47
 obtain ⟨h0,h1,h2,h3,h4,h5,h6,h7,h8⟩:=HS0.out.arr.c
 obtain ⟨c0,c1,c2⟩:_/\_/\_:=⟨HS0.out.ph.1 0,HS0.out.ph.1 1,HS0.out.ph.1 2⟩
 go_wp2_with fail
 refine (HL.out _ HS0.out.bel).mono ?_
 rintro e w2 ⟨rfl,hb⟩
 have HS2:=Lib.hid (HS0.out.step hb)
 clear hb HS0 h0 h1 h2 h3 h4 h5 h6 h7 h8 c0 c1 c2
 obtain ⟨h0,h1,h2,h3,h4,h5,h6,h7,h8⟩:=HS2.out.arr.c
 obtain ⟨c0,c1,c2⟩:_/\_/\_:=⟨HS2.out.ph.1 0,HS2.out.ph.1 1,HS2.out.ph.1 2⟩
 cases r with
 | none =>
  unfold OaR at HLG
  dsimp only at HLG
  go_wp2_with fail
  refine (HLG.out _ HS2.out.bel (lt_blk HS2.out.res)).mono ?_
  rintro e w5 ⟨rfl,hb⟩
  have HS5:=Lib.hid (HS2.out.step hb)
  clear hb HLG HS2 h0 h1 h2 h3 h4 h5 h6 h7 h8 c0 c1 c2
  have HBE:=Lib.hid (below_set9 HS5.out.bel (show w.heap.size<=w.heap.size+2 by omega) (.slice none 0 0) (.int .i64 0) (.slice none 0 0) (.int .i64 0) (.slice none 0 0) (.slice none 0 0) (.slice none 0 0) (.slice none 0 0) (.slice none 0 0))
  have HRE:=Lib.hid (set9_block HS5.out.res (.slice none 0 0) (.int .i64 0) (.slice none 0 0) (.int .i64 0) (.slice none 0 0) (.slice none 0 0) (.slice none 0 0) (.slice none 0 0) (.slice none 0 0))
  obtain ⟨⟨y0,y1,y2,y3,y4,y5,y6,y7,y8⟩,yz⟩:=zero_block HS5.out.res
  go_wp2
  refine bodyPost_ret (v := .tuple #[arrV nilS zeroP,.bool false]) ?_ rfl (oaR_no HBE.out)
  exact ret_arr2 (fn:=Tryz.f47) (p:=8) (u:=9) rfl _ _ (w.heap.size+2) (by rfl) HRE.out
 | some a9 =>
  unfold OaR at HLG
  dsimp only at HLG
  go_wp2_with fail
  refine (HLG.out _ HS2.out.bel (lt_blk HS2.out.res)).mono ?_
  rintro e w5 ⟨h',p',rfl,hav,hb⟩
  clear HLG
  have HS5:=Lib.hid (HS2.out.step hb)
  have HAV:Hid (AV Ha (set9 w5 (w.heap.size+2) (sv h') (.int .i64 p'.k) (sv p'.b) (.int .i64 p'.bn) (sv p'.s) (sv p'.i) (sv p'.f) (sv p'.c) (sv p'.x)) a9 h' p'):=AV.sub (fun b _ e => .inl e) (AV.lat (Lat.set9 (G:=w.heap.size+2) (.inr rfl) _ _ _ _ _ _ _ _ _) hav)
  clear hav hb h0 h1 h2 h3 h4 h5 h6 h7 h8 c0 c1 c2 HS2
  obtain ⟨⟨y0,y1,y2,y3,y4,y5,y6,y7,y8⟩,yz⟩:=zero_block HS5.out.res
  have HBE:=Lib.hid (below_set9 HS5.out.bel (show w.heap.size<=w.heap.size+2 by omega) (sv h') (.int .i64 p'.k) (sv p'.b) (.int .i64 p'.bn) (sv p'.s) (sv p'.i) (sv p'.f) (sv p'.c) (sv p'.x))
  have HRE:=Lib.hid (set9_block HS5.out.res (sv h') (.int .i64 p'.k) (sv p'.b) (.int .i64 p'.bn) (sv p'.s) (sv p'.i) (sv p'.f) (sv p'.c) (sv p'.x))
  go_wp2
  refine bodyPost_ret (v := .tuple #[arrV h' p',.bool true]) ?_ rfl (oaR_yes HAV.out HBE.out)
  exact ret_arr2 (fn:=Tryz.f47) (p:=8) (u:=9) rfl _ _ (w.heap.size+2) (by rfl) HRE.out
theorem chain_5_else {Ha:Nat->Prop}{a:PA}{h:Sl}{p:V8} (w:World) (g:AV Ha w a h p) (hHa:∀ b,Ha b->b < w.heap.size) (o most:Nat) (hn:0 < a.len) (hm:a.len<=most) (hr:¬ a.shape.length<=1) (r:Option PA) (hlg:∀ W,Below w.heap.size w W->w.heap.size+2 < W.heap.size->Calls Tryz.prog 98 #[.agg #[.int .i64 1,.int .i32 8802,.int .i32 8746],arrV h p,.int .i64 (o:Int),.int .i64 (most:Int)] W (OaR (fun b=>Ha b\/b=w.heap.size+2) W r)) :
  Calls Tryz.prog 47 #[.agg #[.int .i64 1,.int .i32 8802,.int .i32 8746],arrV h p,.int .i64 (o:Int),.int .i64 (most:Int)] w (OaR Ha w r):=by
 have HS0:=Lib.hid (ChX.new w 8802 8746 h p)
 have HL:=Lib.hid (fun W (hb:Below w.heap.size w W)=>av_len g W hb)
 have HH:=Lib.hid hHa
 have hrk:h.2.1=a.shape.length:=g.shape.len
 have hn1:¬ (most:Int) < (a.len:Int):=by omega
 have hn0:((a.len:Int)==0)=false:=beq_eq_false_iff_ne.2 (by omega)
 have HMO:=Lib.hid hm
 have HNO:=Lib.hid hn
 have HLG:=Lib.hid hlg
 have hr1:¬ (h.2.1:Int)<=1:=by omega
 clear hrk hHa g hm hn hr hlg
 go_enter Tryz.func47,Tryz.ntmps47
 obtain ⟨h0,h1,h2,h3,h4,h5,h6,h7,h8⟩:=HS0.out.arr.c
 obtain ⟨c0,c1,c2⟩:_/\_/\_:=⟨HS0.out.ph.1 0,HS0.out.ph.1 1,HS0.out.ph.1 2⟩
 go_wp2_with fail
 refine (HL.out _ HS0.out.bel).mono ?_
 rintro e w2 ⟨rfl,hb⟩
 have HS2:=Lib.hid (HS0.out.step hb)
 clear hb HS0 h0 h1 h2 h3 h4 h5 h6 h7 h8 c0 c1 c2
 obtain ⟨h0,h1,h2,h3,h4,h5,h6,h7,h8⟩:=HS2.out.arr.c
 obtain ⟨c0,c1,c2⟩:_/\_/\_:=⟨HS2.out.ph.1 0,HS2.out.ph.1 1,HS2.out.ph.1 2⟩
 cases r with
 | none =>
  unfold OaR at HLG
  dsimp only at HLG
  go_wp2_with fail
  refine (HLG.out _ HS2.out.bel (lt_blk HS2.out.res)).mono ?_
  rintro e w5 ⟨rfl,hb⟩
  have HS5:=Lib.hid (HS2.out.step hb)
  clear hb HLG HS2 h0 h1 h2 h3 h4 h5 h6 h7 h8 c0 c1 c2
  have HBE:=Lib.hid (below_set9 HS5.out.bel (show w.heap.size<=w.heap.size+2 by omega) (.slice none 0 0) (.int .i64 0) (.slice none 0 0) (.int .i64 0) (.slice none 0 0) (.slice none 0 0) (.slice none 0 0) (.slice none 0 0) (.slice none 0 0))
  have HRE:=Lib.hid (set9_block HS5.out.res (.slice none 0 0) (.int .i64 0) (.slice none 0 0) (.int .i64 0) (.slice none 0 0) (.slice none 0 0) (.slice none 0 0) (.slice none 0 0) (.slice none 0 0))
  obtain ⟨⟨y0,y1,y2,y3,y4,y5,y6,y7,y8⟩,yz⟩:=zero_block HS5.out.res
  go_wp2
  refine bodyPost_ret (v := .tuple #[arrV nilS zeroP,.bool false]) ?_ rfl (oaR_no HBE.out)
  exact ret_arr2 (fn:=Tryz.f47) (p:=8) (u:=9) rfl _ _ (w.heap.size+2) (by rfl) HRE.out
 | some a9 =>
  unfold OaR at HLG
  dsimp only at HLG
  go_wp2_with fail
  refine (HLG.out _ HS2.out.bel (lt_blk HS2.out.res)).mono ?_
  rintro e w5 ⟨h',p',rfl,hav,hb⟩
  clear HLG
  have HS5:=Lib.hid (HS2.out.step hb)
  have HAV:Hid (AV Ha (set9 w5 (w.heap.size+2) (sv h') (.int .i64 p'.k) (sv p'.b) (.int .i64 p'.bn) (sv p'.s) (sv p'.i) (sv p'.f) (sv p'.c) (sv p'.x)) a9 h' p'):=AV.sub (fun b _ e => .inl e) (AV.lat (Lat.set9 (G:=w.heap.size+2) (.inr rfl) _ _ _ _ _ _ _ _ _) hav)
  clear hav hb h0 h1 h2 h3 h4 h5 h6 h7 h8 c0 c1 c2 HS2
  obtain ⟨⟨y0,y1,y2,y3,y4,y5,y6,y7,y8⟩,yz⟩:=zero_block HS5.out.res
  have HBE:=Lib.hid (below_set9 HS5.out.bel (show w.heap.size<=w.heap.size+2 by omega) (sv h') (.int .i64 p'.k) (sv p'.b) (.int .i64 p'.bn) (sv p'.s) (sv p'.i) (sv p'.f) (sv p'.c) (sv p'.x))
  have HRE:=Lib.hid (set9_block HS5.out.res (sv h') (.int .i64 p'.k) (sv p'.b) (.int .i64 p'.bn) (sv p'.s) (sv p'.i) (sv p'.f) (sv p'.c) (sv p'.x))
  go_wp2
  refine bodyPost_ret (v := .tuple #[arrV h' p',.bool true]) ?_ rfl (oaR_yes HAV.out HBE.out)
  exact ret_arr2 (fn:=Tryz.f47) (p:=8) (u:=9) rfl _ _ (w.heap.size+2) (by rfl) HRE.out
theorem chain_7_else {Ha:Nat->Prop}{a:PA}{h:Sl}{p:V8} (w:World) (g:AV Ha w a h p) (hHa:∀ b,Ha b->b < w.heap.size) (o most:Nat) (hn:0 < a.len) (hm:a.len<=most) (hr:¬ a.shape.length<=most) (r:Option PA) (hlg:∀ W,Below w.heap.size w W->w.heap.size+2 < W.heap.size->Calls Tryz.prog 98 #[.agg #[.int .i64 1,.int .i32 8802,.int .i32 9076],arrV h p,.int .i64 (o:Int),.int .i64 (most:Int)] W (OaR (fun b=>Ha b\/b=w.heap.size+2) W r)) :
  Calls Tryz.prog 47 #[.agg #[.int .i64 1,.int .i32 8802,.int .i32 9076],arrV h p,.int .i64 (o:Int),.int .i64 (most:Int)] w (OaR Ha w r):=by
 have HS0:=Lib.hid (ChX.new w 8802 9076 h p)
 have HL:=Lib.hid (fun W (hb:Below w.heap.size w W)=>av_len g W hb)
 have HH:=Lib.hid hHa
 have hrk:h.2.1=a.shape.length:=g.shape.len
 have hn1:¬ (most:Int) < (a.len:Int):=by omega
 have hn0:((a.len:Int)==0)=false:=beq_eq_false_iff_ne.2 (by omega)
 have HMO:=Lib.hid hm
 have HNO:=Lib.hid hn
 have HLG:=Lib.hid hlg
 have hr1:¬ (h.2.1:Int)<=(most:Int):=by omega
 clear hrk hHa g hm hn hr hlg
 go_enter Tryz.func47,Tryz.ntmps47
 obtain ⟨h0,h1,h2,h3,h4,h5,h6,h7,h8⟩:=HS0.out.arr.c
 obtain ⟨c0,c1,c2⟩:_/\_/\_:=⟨HS0.out.ph.1 0,HS0.out.ph.1 1,HS0.out.ph.1 2⟩
 go_wp2_with fail
 refine (HL.out _ HS0.out.bel).mono ?_
 rintro e w2 ⟨rfl,hb⟩
 have HS2:=Lib.hid (HS0.out.step hb)
 clear hb HS0 h0 h1 h2 h3 h4 h5 h6 h7 h8 c0 c1 c2
 obtain ⟨h0,h1,h2,h3,h4,h5,h6,h7,h8⟩:=HS2.out.arr.c
 obtain ⟨c0,c1,c2⟩:_/\_/\_:=⟨HS2.out.ph.1 0,HS2.out.ph.1 1,HS2.out.ph.1 2⟩
 cases r with
 | none =>
  unfold OaR at HLG
  dsimp only at HLG
  go_wp2_with fail
  refine (HLG.out _ HS2.out.bel (lt_blk HS2.out.res)).mono ?_
  rintro e w5 ⟨rfl,hb⟩
  have HS5:=Lib.hid (HS2.out.step hb)
  clear hb HLG HS2 h0 h1 h2 h3 h4 h5 h6 h7 h8 c0 c1 c2
  have HBE:=Lib.hid (below_set9 HS5.out.bel (show w.heap.size<=w.heap.size+2 by omega) (.slice none 0 0) (.int .i64 0) (.slice none 0 0) (.int .i64 0) (.slice none 0 0) (.slice none 0 0) (.slice none 0 0) (.slice none 0 0) (.slice none 0 0))
  have HRE:=Lib.hid (set9_block HS5.out.res (.slice none 0 0) (.int .i64 0) (.slice none 0 0) (.int .i64 0) (.slice none 0 0) (.slice none 0 0) (.slice none 0 0) (.slice none 0 0) (.slice none 0 0))
  obtain ⟨⟨y0,y1,y2,y3,y4,y5,y6,y7,y8⟩,yz⟩:=zero_block HS5.out.res
  go_wp2
  refine bodyPost_ret (v := .tuple #[arrV nilS zeroP,.bool false]) ?_ rfl (oaR_no HBE.out)
  exact ret_arr2 (fn:=Tryz.f47) (p:=8) (u:=9) rfl _ _ (w.heap.size+2) (by rfl) HRE.out
 | some a9 =>
  unfold OaR at HLG
  dsimp only at HLG
  go_wp2_with fail
  refine (HLG.out _ HS2.out.bel (lt_blk HS2.out.res)).mono ?_
  rintro e w5 ⟨h',p',rfl,hav,hb⟩
  clear HLG
  have HS5:=Lib.hid (HS2.out.step hb)
  have HAV:Hid (AV Ha (set9 w5 (w.heap.size+2) (sv h') (.int .i64 p'.k) (sv p'.b) (.int .i64 p'.bn) (sv p'.s) (sv p'.i) (sv p'.f) (sv p'.c) (sv p'.x)) a9 h' p'):=AV.sub (fun b _ e => .inl e) (AV.lat (Lat.set9 (G:=w.heap.size+2) (.inr rfl) _ _ _ _ _ _ _ _ _) hav)
  clear hav hb h0 h1 h2 h3 h4 h5 h6 h7 h8 c0 c1 c2 HS2
  obtain ⟨⟨y0,y1,y2,y3,y4,y5,y6,y7,y8⟩,yz⟩:=zero_block HS5.out.res
  have HBE:=Lib.hid (below_set9 HS5.out.bel (show w.heap.size<=w.heap.size+2 by omega) (sv h') (.int .i64 p'.k) (sv p'.b) (.int .i64 p'.bn) (sv p'.s) (sv p'.i) (sv p'.f) (sv p'.c) (sv p'.x))
  have HRE:=Lib.hid (set9_block HS5.out.res (sv h') (.int .i64 p'.k) (sv p'.b) (.int .i64 p'.bn) (sv p'.s) (sv p'.i) (sv p'.f) (sv p'.c) (sv p'.x))
  go_wp2
  refine bodyPost_ret (v := .tuple #[arrV h' p',.bool true]) ?_ rfl (oaR_yes HAV.out HBE.out)
  exact ret_arr2 (fn:=Tryz.f47) (p:=8) (u:=9) rfl _ _ (w.heap.size+2) (by rfl) HRE.out
theorem chain_8_else {Ha:Nat->Prop}{a:PA}{h:Sl}{p:V8} (w:World) (g:AV Ha w a h p) (hHa:∀ b,Ha b->b < w.heap.size) (o most:Nat) (hn:0 < a.len) (hm:a.len<=most) (hr:¬ a.shape.length<=most) (r:Option PA) (hlg:∀ W,Below w.heap.size w W->w.heap.size+2 < W.heap.size->Calls Tryz.prog 98 #[.agg #[.int .i64 1,.int .i32 9076,.int .i32 9076],arrV h p,.int .i64 (o:Int),.int .i64 (most:Int)] W (OaR (fun b=>Ha b\/b=w.heap.size+2) W r)) :
  Calls Tryz.prog 47 #[.agg #[.int .i64 1,.int .i32 9076,.int .i32 9076],arrV h p,.int .i64 (o:Int),.int .i64 (most:Int)] w (OaR Ha w r):=by
 have HS0:=Lib.hid (ChX.new w 9076 9076 h p)
 have HL:=Lib.hid (fun W (hb:Below w.heap.size w W)=>av_len g W hb)
 have HH:=Lib.hid hHa
 have hrk:h.2.1=a.shape.length:=g.shape.len
 have hn1:¬ (most:Int) < (a.len:Int):=by omega
 have hn0:((a.len:Int)==0)=false:=beq_eq_false_iff_ne.2 (by omega)
 have HMO:=Lib.hid hm
 have HNO:=Lib.hid hn
 have HLG:=Lib.hid hlg
 have hr1:¬ (h.2.1:Int)<=(most:Int):=by omega
 clear hrk hHa g hm hn hr hlg
 go_enter Tryz.func47,Tryz.ntmps47
 obtain ⟨h0,h1,h2,h3,h4,h5,h6,h7,h8⟩:=HS0.out.arr.c
 obtain ⟨c0,c1,c2⟩:_/\_/\_:=⟨HS0.out.ph.1 0,HS0.out.ph.1 1,HS0.out.ph.1 2⟩
 go_wp2_with fail
 refine (HL.out _ HS0.out.bel).mono ?_
 rintro e w2 ⟨rfl,hb⟩
 have HS2:=Lib.hid (HS0.out.step hb)
 clear hb HS0 h0 h1 h2 h3 h4 h5 h6 h7 h8 c0 c1 c2
 obtain ⟨h0,h1,h2,h3,h4,h5,h6,h7,h8⟩:=HS2.out.arr.c
 obtain ⟨c0,c1,c2⟩:_/\_/\_:=⟨HS2.out.ph.1 0,HS2.out.ph.1 1,HS2.out.ph.1 2⟩
 cases r with
 | none =>
  unfold OaR at HLG
  dsimp only at HLG
  go_wp2_with fail
  refine (HLG.out _ HS2.out.bel (lt_blk HS2.out.res)).mono ?_
  rintro e w5 ⟨rfl,hb⟩
  have HS5:=Lib.hid (HS2.out.step hb)
  clear hb HLG HS2 h0 h1 h2 h3 h4 h5 h6 h7 h8 c0 c1 c2
  have HBE:=Lib.hid (below_set9 HS5.out.bel (show w.heap.size<=w.heap.size+2 by omega) (.slice none 0 0) (.int .i64 0) (.slice none 0 0) (.int .i64 0) (.slice none 0 0) (.slice none 0 0) (.slice none 0 0) (.slice none 0 0) (.slice none 0 0))
  have HRE:=Lib.hid (set9_block HS5.out.res (.slice none 0 0) (.int .i64 0) (.slice none 0 0) (.int .i64 0) (.slice none 0 0) (.slice none 0 0) (.slice none 0 0) (.slice none 0 0) (.slice none 0 0))
  obtain ⟨⟨y0,y1,y2,y3,y4,y5,y6,y7,y8⟩,yz⟩:=zero_block HS5.out.res
  go_wp2
  refine bodyPost_ret (v := .tuple #[arrV nilS zeroP,.bool false]) ?_ rfl (oaR_no HBE.out)
  exact ret_arr2 (fn:=Tryz.f47) (p:=8) (u:=9) rfl _ _ (w.heap.size+2) (by rfl) HRE.out
 | some a9 =>
  unfold OaR at HLG
  dsimp only at HLG
  go_wp2_with fail
  refine (HLG.out _ HS2.out.bel (lt_blk HS2.out.res)).mono ?_
  rintro e w5 ⟨h',p',rfl,hav,hb⟩
  clear HLG
  have HS5:=Lib.hid (HS2.out.step hb)
  have HAV:Hid (AV Ha (set9 w5 (w.heap.size+2) (sv h') (.int .i64 p'.k) (sv p'.b) (.int .i64 p'.bn) (sv p'.s) (sv p'.i) (sv p'.f) (sv p'.c) (sv p'.x)) a9 h' p'):=AV.sub (fun b _ e => .inl e) (AV.lat (Lat.set9 (G:=w.heap.size+2) (.inr rfl) _ _ _ _ _ _ _ _ _) hav)
  clear hav hb h0 h1 h2 h3 h4 h5 h6 h7 h8 c0 c1 c2 HS2
  obtain ⟨⟨y0,y1,y2,y3,y4,y5,y6,y7,y8⟩,yz⟩:=zero_block HS5.out.res
  have HBE:=Lib.hid (below_set9 HS5.out.bel (show w.heap.size<=w.heap.size+2 by omega) (sv h') (.int .i64 p'.k) (sv p'.b) (.int .i64 p'.bn) (sv p'.s) (sv p'.i) (sv p'.f) (sv p'.c) (sv p'.x))
  have HRE:=Lib.hid (set9_block HS5.out.res (sv h') (.int .i64 p'.k) (sv p'.b) (.int .i64 p'.bn) (sv p'.s) (sv p'.i) (sv p'.f) (sv p'.c) (sv p'.x))
  go_wp2
  refine bodyPost_ret (v := .tuple #[arrV h' p',.bool true]) ?_ rfl (oaR_yes HAV.out HBE.out)
  exact ret_arr2 (fn:=Tryz.f47) (p:=8) (u:=9) rfl _ _ (w.heap.size+2) (by rfl) HRE.out
theorem chain_2_else {Ha:Nat->Prop}{a:PA}{h:Sl}{p:V8} (w:World) (g:AV Ha w a h p) (hHa:∀ b,Ha b->b < w.heap.size) (o most:Nat) (hn:0 < a.len) (hm:a.len<=most) (r:Option PA) (hlg:∀ W,Below w.heap.size w W->w.heap.size+2 < W.heap.size->Calls Tryz.prog 98 #[.agg #[.int .i64 1,.int .i32 8835,.int .i32 9035],arrV h p,.int .i64 (o:Int),.int .i64 (most:Int)] W (OaR (fun b=>Ha b\/b=w.heap.size+2) W r)) :
  Calls Tryz.prog 47 #[.agg #[.int .i64 1,.int .i32 8835,.int .i32 9035],arrV h p,.int .i64 (o:Int),.int .i64 (most:Int)] w (OaR Ha w r):=by
 have HS0:=Lib.hid (ChX.new w 8835 9035 h p)
 have HL:=Lib.hid (fun W (hb:Below w.heap.size w W)=>av_len g W hb)
 have HH:=Lib.hid hHa
 have hrk:h.2.1=a.shape.length:=g.shape.len
 have hn1:¬ (most:Int) < (a.len:Int):=by omega
 have hn0:((a.len:Int)==0)=false:=beq_eq_false_iff_ne.2 (by omega)
 have HMO:=Lib.hid hm
 have HNO:=Lib.hid hn
 have HLG:=Lib.hid hlg
 clear hrk hHa g hm hn  hlg
 go_enter Tryz.func47,Tryz.ntmps47
 obtain ⟨h0,h1,h2,h3,h4,h5,h6,h7,h8⟩:=HS0.out.arr.c
 obtain ⟨c0,c1,c2⟩:_/\_/\_:=⟨HS0.out.ph.1 0,HS0.out.ph.1 1,HS0.out.ph.1 2⟩
 go_wp2_with fail
 refine (HL.out _ HS0.out.bel).mono ?_
 rintro e w2 ⟨rfl,hb⟩
 have HS2:=Lib.hid (HS0.out.step hb)
 clear hb HS0 h0 h1 h2 h3 h4 h5 h6 h7 h8 c0 c1 c2
 obtain ⟨h0,h1,h2,h3,h4,h5,h6,h7,h8⟩:=HS2.out.arr.c
 obtain ⟨c0,c1,c2⟩:_/\_/\_:=⟨HS2.out.ph.1 0,HS2.out.ph.1 1,HS2.out.ph.1 2⟩
 cases r with
 | none =>
  unfold OaR at HLG
  dsimp only at HLG
  go_wp2_with fail
  refine (HLG.out _ HS2.out.bel (lt_blk HS2.out.res)).mono ?_
  rintro e w5 ⟨rfl,hb⟩
  have HS5:=Lib.hid (HS2.out.step hb)
  clear hb HLG HS2 h0 h1 h2 h3 h4 h5 h6 h7 h8 c0 c1 c2
  have HBE:=Lib.hid (below_set9 HS5.out.bel (show w.heap.size<=w.heap.size+2 by omega) (.slice none 0 0) (.int .i64 0) (.slice none 0 0) (.int .i64 0) (.slice none 0 0) (.slice none 0 0) (.slice none 0 0) (.slice none 0 0) (.slice none 0 0))
  have HRE:=Lib.hid (set9_block HS5.out.res (.slice none 0 0) (.int .i64 0) (.slice none 0 0) (.int .i64 0) (.slice none 0 0) (.slice none 0 0) (.slice none 0 0) (.slice none 0 0) (.slice none 0 0))
  obtain ⟨⟨y0,y1,y2,y3,y4,y5,y6,y7,y8⟩,yz⟩:=zero_block HS5.out.res
  go_wp2
  refine bodyPost_ret (v := .tuple #[arrV nilS zeroP,.bool false]) ?_ rfl (oaR_no HBE.out)
  exact ret_arr2 (fn:=Tryz.f47) (p:=8) (u:=9) rfl _ _ (w.heap.size+2) (by rfl) HRE.out
 | some a9 =>
  unfold OaR at HLG
  dsimp only at HLG
  go_wp2_with fail
  refine (HLG.out _ HS2.out.bel (lt_blk HS2.out.res)).mono ?_
  rintro e w5 ⟨h',p',rfl,hav,hb⟩
  clear HLG
  have HS5:=Lib.hid (HS2.out.step hb)
  have HAV:Hid (AV Ha (set9 w5 (w.heap.size+2) (sv h') (.int .i64 p'.k) (sv p'.b) (.int .i64 p'.bn) (sv p'.s) (sv p'.i) (sv p'.f) (sv p'.c) (sv p'.x)) a9 h' p'):=AV.sub (fun b _ e => .inl e) (AV.lat (Lat.set9 (G:=w.heap.size+2) (.inr rfl) _ _ _ _ _ _ _ _ _) hav)
  clear hav hb h0 h1 h2 h3 h4 h5 h6 h7 h8 c0 c1 c2 HS2
  obtain ⟨⟨y0,y1,y2,y3,y4,y5,y6,y7,y8⟩,yz⟩:=zero_block HS5.out.res
  have HBE:=Lib.hid (below_set9 HS5.out.bel (show w.heap.size<=w.heap.size+2 by omega) (sv h') (.int .i64 p'.k) (sv p'.b) (.int .i64 p'.bn) (sv p'.s) (sv p'.i) (sv p'.f) (sv p'.c) (sv p'.x))
  have HRE:=Lib.hid (set9_block HS5.out.res (sv h') (.int .i64 p'.k) (sv p'.b) (.int .i64 p'.bn) (sv p'.s) (sv p'.i) (sv p'.f) (sv p'.c) (sv p'.x))
  go_wp2
  refine bodyPost_ret (v := .tuple #[arrV h' p',.bool true]) ?_ rfl (oaR_yes HAV.out HBE.out)
  exact ret_arr2 (fn:=Tryz.f47) (p:=8) (u:=9) rfl _ _ (w.heap.size+2) (by rfl) HRE.out
theorem chain_3_else {Ha:Nat->Prop}{a:PA}{h:Sl}{p:V8} (w:World) (g:AV Ha w a h p) (hHa:∀ b,Ha b->b < w.heap.size) (o most:Nat) (hn:0 < a.len) (hm:a.len<=most) (r:Option PA) (hlg:∀ W,Below w.heap.size w W->w.heap.size+2 < W.heap.size->Calls Tryz.prog 98 #[.agg #[.int .i64 1,.int .i32 8835,.int .i32 9042],arrV h p,.int .i64 (o:Int),.int .i64 (most:Int)] W (OaR (fun b=>Ha b\/b=w.heap.size+2) W r)) :
  Calls Tryz.prog 47 #[.agg #[.int .i64 1,.int .i32 8835,.int .i32 9042],arrV h p,.int .i64 (o:Int),.int .i64 (most:Int)] w (OaR Ha w r):=by
 have HS0:=Lib.hid (ChX.new w 8835 9042 h p)
 have HL:=Lib.hid (fun W (hb:Below w.heap.size w W)=>av_len g W hb)
 have HH:=Lib.hid hHa
 have hrk:h.2.1=a.shape.length:=g.shape.len
 have hn1:¬ (most:Int) < (a.len:Int):=by omega
 have hn0:((a.len:Int)==0)=false:=beq_eq_false_iff_ne.2 (by omega)
 have HMO:=Lib.hid hm
 have HNO:=Lib.hid hn
 have HLG:=Lib.hid hlg
 clear hrk hHa g hm hn  hlg
 go_enter Tryz.func47,Tryz.ntmps47
 obtain ⟨h0,h1,h2,h3,h4,h5,h6,h7,h8⟩:=HS0.out.arr.c
 obtain ⟨c0,c1,c2⟩:_/\_/\_:=⟨HS0.out.ph.1 0,HS0.out.ph.1 1,HS0.out.ph.1 2⟩
 go_wp2_with fail
 refine (HL.out _ HS0.out.bel).mono ?_
 rintro e w2 ⟨rfl,hb⟩
 have HS2:=Lib.hid (HS0.out.step hb)
 clear hb HS0 h0 h1 h2 h3 h4 h5 h6 h7 h8 c0 c1 c2
 obtain ⟨h0,h1,h2,h3,h4,h5,h6,h7,h8⟩:=HS2.out.arr.c
 obtain ⟨c0,c1,c2⟩:_/\_/\_:=⟨HS2.out.ph.1 0,HS2.out.ph.1 1,HS2.out.ph.1 2⟩
 cases r with
 | none =>
  unfold OaR at HLG
  dsimp only at HLG
  go_wp2_with fail
  refine (HLG.out _ HS2.out.bel (lt_blk HS2.out.res)).mono ?_
  rintro e w5 ⟨rfl,hb⟩
  have HS5:=Lib.hid (HS2.out.step hb)
  clear hb HLG HS2 h0 h1 h2 h3 h4 h5 h6 h7 h8 c0 c1 c2
  have HBE:=Lib.hid (below_set9 HS5.out.bel (show w.heap.size<=w.heap.size+2 by omega) (.slice none 0 0) (.int .i64 0) (.slice none 0 0) (.int .i64 0) (.slice none 0 0) (.slice none 0 0) (.slice none 0 0) (.slice none 0 0) (.slice none 0 0))
  have HRE:=Lib.hid (set9_block HS5.out.res (.slice none 0 0) (.int .i64 0) (.slice none 0 0) (.int .i64 0) (.slice none 0 0) (.slice none 0 0) (.slice none 0 0) (.slice none 0 0) (.slice none 0 0))
  obtain ⟨⟨y0,y1,y2,y3,y4,y5,y6,y7,y8⟩,yz⟩:=zero_block HS5.out.res
  go_wp2
  refine bodyPost_ret (v := .tuple #[arrV nilS zeroP,.bool false]) ?_ rfl (oaR_no HBE.out)
  exact ret_arr2 (fn:=Tryz.f47) (p:=8) (u:=9) rfl _ _ (w.heap.size+2) (by rfl) HRE.out
 | some a9 =>
  unfold OaR at HLG
  dsimp only at HLG
  go_wp2_with fail
  refine (HLG.out _ HS2.out.bel (lt_blk HS2.out.res)).mono ?_
  rintro e w5 ⟨h',p',rfl,hav,hb⟩
  clear HLG
  have HS5:=Lib.hid (HS2.out.step hb)
  have HAV:Hid (AV Ha (set9 w5 (w.heap.size+2) (sv h') (.int .i64 p'.k) (sv p'.b) (.int .i64 p'.bn) (sv p'.s) (sv p'.i) (sv p'.f) (sv p'.c) (sv p'.x)) a9 h' p'):=AV.sub (fun b _ e => .inl e) (AV.lat (Lat.set9 (G:=w.heap.size+2) (.inr rfl) _ _ _ _ _ _ _ _ _) hav)
  clear hav hb h0 h1 h2 h3 h4 h5 h6 h7 h8 c0 c1 c2 HS2
  obtain ⟨⟨y0,y1,y2,y3,y4,y5,y6,y7,y8⟩,yz⟩:=zero_block HS5.out.res
  have HBE:=Lib.hid (below_set9 HS5.out.bel (show w.heap.size<=w.heap.size+2 by omega) (sv h') (.int .i64 p'.k) (sv p'.b) (.int .i64 p'.bn) (sv p'.s) (sv p'.i) (sv p'.f) (sv p'.c) (sv p'.x))
  have HRE:=Lib.hid (set9_block HS5.out.res (sv h') (.int .i64 p'.k) (sv p'.b) (.int .i64 p'.bn) (sv p'.s) (sv p'.i) (sv p'.f) (sv p'.c) (sv p'.x))
  go_wp2
  refine bodyPost_ret (v := .tuple #[arrV h' p',.bool true]) ?_ rfl (oaR_yes HAV.out HBE.out)
  exact ret_arr2 (fn:=Tryz.f47) (p:=8) (u:=9) rfl _ _ (w.heap.size+2) (by rfl) HRE.out
theorem chain_4_else {Ha:Nat->Prop}{a:PA}{h:Sl}{p:V8} (w:World) (g:AV Ha w a h p) (hHa:∀ b,Ha b->b < w.heap.size) (o most:Nat) (hn:0 < a.len) (hm:a.len<=most) (r:Option PA) (hlg:∀ W,Below w.heap.size w W->w.heap.size+2 < W.heap.size->Calls Tryz.prog 98 #[.agg #[.int .i64 1,.int .i32 8835,.int .i32 9080],arrV h p,.int .i64 (o:Int),.int .i64 (most:Int)] W (OaR (fun b=>Ha b\/b=w.heap.size+2) W r)) :
  Calls Tryz.prog 47 #[.agg #[.int .i64 1,.int .i32 8835,.int .i32 9080],arrV h p,.int .i64 (o:Int),.int .i64 (most:Int)] w (OaR Ha w r):=by
 have HS0:=Lib.hid (ChX.new w 8835 9080 h p)
 have HL:=Lib.hid (fun W (hb:Below w.heap.size w W)=>av_len g W hb)
 have HH:=Lib.hid hHa
 have hrk:h.2.1=a.shape.length:=g.shape.len
 have hn1:¬ (most:Int) < (a.len:Int):=by omega
 have hn0:((a.len:Int)==0)=false:=beq_eq_false_iff_ne.2 (by omega)
 have HMO:=Lib.hid hm
 have HNO:=Lib.hid hn
 have HLG:=Lib.hid hlg
 clear hrk hHa g hm hn  hlg
 go_enter Tryz.func47,Tryz.ntmps47
 obtain ⟨h0,h1,h2,h3,h4,h5,h6,h7,h8⟩:=HS0.out.arr.c
 obtain ⟨c0,c1,c2⟩:_/\_/\_:=⟨HS0.out.ph.1 0,HS0.out.ph.1 1,HS0.out.ph.1 2⟩
 go_wp2_with fail
 refine (HL.out _ HS0.out.bel).mono ?_
 rintro e w2 ⟨rfl,hb⟩
 have HS2:=Lib.hid (HS0.out.step hb)
 clear hb HS0 h0 h1 h2 h3 h4 h5 h6 h7 h8 c0 c1 c2
 obtain ⟨h0,h1,h2,h3,h4,h5,h6,h7,h8⟩:=HS2.out.arr.c
 obtain ⟨c0,c1,c2⟩:_/\_/\_:=⟨HS2.out.ph.1 0,HS2.out.ph.1 1,HS2.out.ph.1 2⟩
 cases r with
 | none =>
  unfold OaR at HLG
  dsimp only at HLG
  go_wp2_with fail
  refine (HLG.out _ HS2.out.bel (lt_blk HS2.out.res)).mono ?_
  rintro e w5 ⟨rfl,hb⟩
  have HS5:=Lib.hid (HS2.out.step hb)
  clear hb HLG HS2 h0 h1 h2 h3 h4 h5 h6 h7 h8 c0 c1 c2
  have HBE:=Lib.hid (below_set9 HS5.out.bel (show w.heap.size<=w.heap.size+2 by omega) (.slice none 0 0) (.int .i64 0) (.slice none 0 0) (.int .i64 0) (.slice none 0 0) (.slice none 0 0) (.slice none 0 0) (.slice none 0 0) (.slice none 0 0))
  have HRE:=Lib.hid (set9_block HS5.out.res (.slice none 0 0) (.int .i64 0) (.slice none 0 0) (.int .i64 0) (.slice none 0 0) (.slice none 0 0) (.slice none 0 0) (.slice none 0 0) (.slice none 0 0))
  obtain ⟨⟨y0,y1,y2,y3,y4,y5,y6,y7,y8⟩,yz⟩:=zero_block HS5.out.res
  go_wp2
  refine bodyPost_ret (v := .tuple #[arrV nilS zeroP,.bool false]) ?_ rfl (oaR_no HBE.out)
  exact ret_arr2 (fn:=Tryz.f47) (p:=8) (u:=9) rfl _ _ (w.heap.size+2) (by rfl) HRE.out
 | some a9 =>
  unfold OaR at HLG
  dsimp only at HLG
  go_wp2_with fail
  refine (HLG.out _ HS2.out.bel (lt_blk HS2.out.res)).mono ?_
  rintro e w5 ⟨h',p',rfl,hav,hb⟩
  clear HLG
  have HS5:=Lib.hid (HS2.out.step hb)
  have HAV:Hid (AV Ha (set9 w5 (w.heap.size+2) (sv h') (.int .i64 p'.k) (sv p'.b) (.int .i64 p'.bn) (sv p'.s) (sv p'.i) (sv p'.f) (sv p'.c) (sv p'.x)) a9 h' p'):=AV.sub (fun b _ e => .inl e) (AV.lat (Lat.set9 (G:=w.heap.size+2) (.inr rfl) _ _ _ _ _ _ _ _ _) hav)
  clear hav hb h0 h1 h2 h3 h4 h5 h6 h7 h8 c0 c1 c2 HS2
  obtain ⟨⟨y0,y1,y2,y3,y4,y5,y6,y7,y8⟩,yz⟩:=zero_block HS5.out.res
  have HBE:=Lib.hid (below_set9 HS5.out.bel (show w.heap.size<=w.heap.size+2 by omega) (sv h') (.int .i64 p'.k) (sv p'.b) (.int .i64 p'.bn) (sv p'.s) (sv p'.i) (sv p'.f) (sv p'.c) (sv p'.x))
  have HRE:=Lib.hid (set9_block HS5.out.res (sv h') (.int .i64 p'.k) (sv p'.b) (.int .i64 p'.bn) (sv p'.s) (sv p'.i) (sv p'.f) (sv p'.c) (sv p'.x))
  go_wp2
  refine bodyPost_ret (v := .tuple #[arrV h' p',.bool true]) ?_ rfl (oaR_yes HAV.out HBE.out)
  exact ret_arr2 (fn:=Tryz.f47) (p:=8) (u:=9) rfl _ _ (w.heap.size+2) (by rfl) HRE.out
theorem chain_6_else {Ha:Nat->Prop}{a:PA}{h:Sl}{p:V8} (w:World) (g:AV Ha w a h p) (hHa:∀ b,Ha b->b < w.heap.size) (o most:Nat) (hn:0 < a.len) (hm:a.len<=most) (r:Option PA) (hlg:∀ W,Below w.heap.size w W->w.heap.size+2 < W.heap.size->Calls Tryz.prog 98 #[.agg #[.int .i64 1,.int .i32 8802,.int .i32 9080],arrV h p,.int .i64 (o:Int),.int .i64 (most:Int)] W (OaR (fun b=>Ha b\/b=w.heap.size+2) W r)) :
  Calls Tryz.prog 47 #[.agg #[.int .i64 1,.int .i32 8802,.int .i32 9080],arrV h p,.int .i64 (o:Int),.int .i64 (most:Int)] w (OaR Ha w r):=by
 have HS0:=Lib.hid (ChX.new w 8802 9080 h p)
 have HL:=Lib.hid (fun W (hb:Below w.heap.size w W)=>av_len g W hb)
 have HH:=Lib.hid hHa
 have hrk:h.2.1=a.shape.length:=g.shape.len
 have hn1:¬ (most:Int) < (a.len:Int):=by omega
 have hn0:((a.len:Int)==0)=false:=beq_eq_false_iff_ne.2 (by omega)
 have HMO:=Lib.hid hm
 have HNO:=Lib.hid hn
 have HLG:=Lib.hid hlg
 clear hrk hHa g hm hn  hlg
 go_enter Tryz.func47,Tryz.ntmps47
 obtain ⟨h0,h1,h2,h3,h4,h5,h6,h7,h8⟩:=HS0.out.arr.c
 obtain ⟨c0,c1,c2⟩:_/\_/\_:=⟨HS0.out.ph.1 0,HS0.out.ph.1 1,HS0.out.ph.1 2⟩
 go_wp2_with fail
 refine (HL.out _ HS0.out.bel).mono ?_
 rintro e w2 ⟨rfl,hb⟩
 have HS2:=Lib.hid (HS0.out.step hb)
 clear hb HS0 h0 h1 h2 h3 h4 h5 h6 h7 h8 c0 c1 c2
 obtain ⟨h0,h1,h2,h3,h4,h5,h6,h7,h8⟩:=HS2.out.arr.c
 obtain ⟨c0,c1,c2⟩:_/\_/\_:=⟨HS2.out.ph.1 0,HS2.out.ph.1 1,HS2.out.ph.1 2⟩
 cases r with
 | none =>
  unfold OaR at HLG
  dsimp only at HLG
  go_wp2_with fail
  refine (HLG.out _ HS2.out.bel (lt_blk HS2.out.res)).mono ?_
  rintro e w5 ⟨rfl,hb⟩
  have HS5:=Lib.hid (HS2.out.step hb)
  clear hb HLG HS2 h0 h1 h2 h3 h4 h5 h6 h7 h8 c0 c1 c2
  have HBE:=Lib.hid (below_set9 HS5.out.bel (show w.heap.size<=w.heap.size+2 by omega) (.slice none 0 0) (.int .i64 0) (.slice none 0 0) (.int .i64 0) (.slice none 0 0) (.slice none 0 0) (.slice none 0 0) (.slice none 0 0) (.slice none 0 0))
  have HRE:=Lib.hid (set9_block HS5.out.res (.slice none 0 0) (.int .i64 0) (.slice none 0 0) (.int .i64 0) (.slice none 0 0) (.slice none 0 0) (.slice none 0 0) (.slice none 0 0) (.slice none 0 0))
  obtain ⟨⟨y0,y1,y2,y3,y4,y5,y6,y7,y8⟩,yz⟩:=zero_block HS5.out.res
  go_wp2
  refine bodyPost_ret (v := .tuple #[arrV nilS zeroP,.bool false]) ?_ rfl (oaR_no HBE.out)
  exact ret_arr2 (fn:=Tryz.f47) (p:=8) (u:=9) rfl _ _ (w.heap.size+2) (by rfl) HRE.out
 | some a9 =>
  unfold OaR at HLG
  dsimp only at HLG
  go_wp2_with fail
  refine (HLG.out _ HS2.out.bel (lt_blk HS2.out.res)).mono ?_
  rintro e w5 ⟨h',p',rfl,hav,hb⟩
  clear HLG
  have HS5:=Lib.hid (HS2.out.step hb)
  have HAV:Hid (AV Ha (set9 w5 (w.heap.size+2) (sv h') (.int .i64 p'.k) (sv p'.b) (.int .i64 p'.bn) (sv p'.s) (sv p'.i) (sv p'.f) (sv p'.c) (sv p'.x)) a9 h' p'):=AV.sub (fun b _ e => .inl e) (AV.lat (Lat.set9 (G:=w.heap.size+2) (.inr rfl) _ _ _ _ _ _ _ _ _) hav)
  clear hav hb h0 h1 h2 h3 h4 h5 h6 h7 h8 c0 c1 c2 HS2
  obtain ⟨⟨y0,y1,y2,y3,y4,y5,y6,y7,y8⟩,yz⟩:=zero_block HS5.out.res
  have HBE:=Lib.hid (below_set9 HS5.out.bel (show w.heap.size<=w.heap.size+2 by omega) (sv h') (.int .i64 p'.k) (sv p'.b) (.int .i64 p'.bn) (sv p'.s) (sv p'.i) (sv p'.f) (sv p'.c) (sv p'.x))
  have HRE:=Lib.hid (set9_block HS5.out.res (sv h') (.int .i64 p'.k) (sv p'.b) (.int .i64 p'.bn) (sv p'.s) (sv p'.i) (sv p'.f) (sv p'.c) (sv p'.x))
  go_wp2
  refine bodyPost_ret (v := .tuple #[arrV h' p',.bool true]) ?_ rfl (oaR_yes HAV.out HBE.out)
  exact ret_arr2 (fn:=Tryz.f47) (p:=8) (u:=9) rfl _ _ (w.heap.size+2) (by rfl) HRE.out
theorem chain_10_else {Ha:Nat->Prop}{a:PA}{h:Sl}{p:V8} (w:World) (g:AV Ha w a h p) (hHa:∀ b,Ha b->b < w.heap.size) (o most:Nat) (hn:0 < a.len) (hm:a.len<=most) (r:Option PA) (hlg:∀ W,Below w.heap.size w W->w.heap.size+2 < W.heap.size->Calls Tryz.prog 98 #[.agg #[.int .i64 1,.int .i32 9021,.int .i32 9075],arrV h p,.int .i64 (o:Int),.int .i64 (most:Int)] W (OaR (fun b=>Ha b\/b=w.heap.size+2) W r)) :
  Calls Tryz.prog 47 #[.agg #[.int .i64 1,.int .i32 9021,.int .i32 9075],arrV h p,.int .i64 (o:Int),.int .i64 (most:Int)] w (OaR Ha w r):=by
 have HS0:=Lib.hid (ChX.new w 9021 9075 h p)
 have HL:=Lib.hid (fun W (hb:Below w.heap.size w W)=>av_len g W hb)
 have HH:=Lib.hid hHa
 have hrk:h.2.1=a.shape.length:=g.shape.len
 have hn1:¬ (most:Int) < (a.len:Int):=by omega
 have hn0:((a.len:Int)==0)=false:=beq_eq_false_iff_ne.2 (by omega)
 have HMO:=Lib.hid hm
 have HNO:=Lib.hid hn
 have HLG:=Lib.hid hlg
 clear hrk hHa g hm hn  hlg
 go_enter Tryz.func47,Tryz.ntmps47
 obtain ⟨h0,h1,h2,h3,h4,h5,h6,h7,h8⟩:=HS0.out.arr.c
 obtain ⟨c0,c1,c2⟩:_/\_/\_:=⟨HS0.out.ph.1 0,HS0.out.ph.1 1,HS0.out.ph.1 2⟩
 go_wp2_with fail
 refine (HL.out _ HS0.out.bel).mono ?_
 rintro e w2 ⟨rfl,hb⟩
 have HS2:=Lib.hid (HS0.out.step hb)
 clear hb HS0 h0 h1 h2 h3 h4 h5 h6 h7 h8 c0 c1 c2
 obtain ⟨h0,h1,h2,h3,h4,h5,h6,h7,h8⟩:=HS2.out.arr.c
 obtain ⟨c0,c1,c2⟩:_/\_/\_:=⟨HS2.out.ph.1 0,HS2.out.ph.1 1,HS2.out.ph.1 2⟩
 cases r with
 | none =>
  unfold OaR at HLG
  dsimp only at HLG
  go_wp2_with fail
  refine (HLG.out _ HS2.out.bel (lt_blk HS2.out.res)).mono ?_
  rintro e w5 ⟨rfl,hb⟩
  have HS5:=Lib.hid (HS2.out.step hb)
  clear hb HLG HS2 h0 h1 h2 h3 h4 h5 h6 h7 h8 c0 c1 c2
  have HBE:=Lib.hid (below_set9 HS5.out.bel (show w.heap.size<=w.heap.size+2 by omega) (.slice none 0 0) (.int .i64 0) (.slice none 0 0) (.int .i64 0) (.slice none 0 0) (.slice none 0 0) (.slice none 0 0) (.slice none 0 0) (.slice none 0 0))
  have HRE:=Lib.hid (set9_block HS5.out.res (.slice none 0 0) (.int .i64 0) (.slice none 0 0) (.int .i64 0) (.slice none 0 0) (.slice none 0 0) (.slice none 0 0) (.slice none 0 0) (.slice none 0 0))
  obtain ⟨⟨y0,y1,y2,y3,y4,y5,y6,y7,y8⟩,yz⟩:=zero_block HS5.out.res
  go_wp2
  refine bodyPost_ret (v := .tuple #[arrV nilS zeroP,.bool false]) ?_ rfl (oaR_no HBE.out)
  exact ret_arr2 (fn:=Tryz.f47) (p:=8) (u:=9) rfl _ _ (w.heap.size+2) (by rfl) HRE.out
 | some a9 =>
  unfold OaR at HLG
  dsimp only at HLG
  go_wp2_with fail
  refine (HLG.out _ HS2.out.bel (lt_blk HS2.out.res)).mono ?_
  rintro e w5 ⟨h',p',rfl,hav,hb⟩
  clear HLG
  have HS5:=Lib.hid (HS2.out.step hb)
  have HAV:Hid (AV Ha (set9 w5 (w.heap.size+2) (sv h') (.int .i64 p'.k) (sv p'.b) (.int .i64 p'.bn) (sv p'.s) (sv p'.i) (sv p'.f) (sv p'.c) (sv p'.x)) a9 h' p'):=AV.sub (fun b _ e => .inl e) (AV.lat (Lat.set9 (G:=w.heap.size+2) (.inr rfl) _ _ _ _ _ _ _ _ _) hav)
  clear hav hb h0 h1 h2 h3 h4 h5 h6 h7 h8 c0 c1 c2 HS2
  obtain ⟨⟨y0,y1,y2,y3,y4,y5,y6,y7,y8⟩,yz⟩:=zero_block HS5.out.res
  have HBE:=Lib.hid (below_set9 HS5.out.bel (show w.heap.size<=w.heap.size+2 by omega) (sv h') (.int .i64 p'.k) (sv p'.b) (.int .i64 p'.bn) (sv p'.s) (sv p'.i) (sv p'.f) (sv p'.c) (sv p'.x))
  have HRE:=Lib.hid (set9_block HS5.out.res (sv h') (.int .i64 p'.k) (sv p'.b) (.int .i64 p'.bn) (sv p'.s) (sv p'.i) (sv p'.f) (sv p'.c) (sv p'.x))
  go_wp2
  refine bodyPost_ret (v := .tuple #[arrV h' p',.bool true]) ?_ rfl (oaR_yes HAV.out HBE.out)
  exact ret_arr2 (fn:=Tryz.f47) (p:=8) (u:=9) rfl _ _ (w.heap.size+2) (by rfl) HRE.out
end Go.Proofs.YtbakjaliponbbaaGreatDoor
