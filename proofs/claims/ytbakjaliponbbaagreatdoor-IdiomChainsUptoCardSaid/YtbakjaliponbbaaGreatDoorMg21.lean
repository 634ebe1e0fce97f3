/- The walks of flat.span, and of flat.Cut at numbers. The walk of flat.those over characters. The walks of hash.New, Put and Firsts. Printed by .. Conditions: as each theorem says. -/
import Derived.Test.YtbakjaliponbbaaGreatDoorMg20
import Derived.Test.YtbakjaliponbbaaGreatDoorMg04
import Derived.Test.YtbakjaliponbbaaGreatDoorMg02
import Derived.Test.YtbakjaliponbbaaGreatDoorMg12
import Derived.Test.YtbakjaliponbbaaGreatDoorMg13
import Derived.Test.YtbakjaliponbbaaGreatDoorMg19
set_option maxRecDepth 100000
set_option maxHeartbeats 4000000
namespace Go.Proofs.YtbakjaliponbbaaGreatDoor
open Go Go.RowKit Go.Proofs Fl
theorem info_intC:(Tryz.prog.info? 3).map (fun i=>(i.zero,i.size,i.bytes))=some (some (.int .i64 0),1,8):=by kernel_rfl
theorem make_capJ (n:Nat) (hn:n<=1000000) (w:World):(Instr.makeSlice 41 (.int .i64 0) (.int .i64 (n:Int))).run Tryz.prog w= .ok (.slice (some ⟨w.heap.size,0,none⟩) 0 n) (w.alloc (.cells (madeCells #[.int .i64 0] n) 3)):=by
 obtain ⟨i,hi,hz,hs,hb⟩:=info_parts info_intC
 have hr:=run_make (P:=Tryz.prog) w 41 3 i (.int .i64 0) Tryz.underlying41 hi hz .i64 .i64 0 (n:Int) (by omega) (by omega) (by rw [hb];omega) (by omega)
 simp only [Int.toNat_natCast,hs,Nat.mul_one] at hr
 exact hr
abbrev spanL (a d:Nat):List Value:=(List.range d).map fun j => .int .i64 ((a+j:Nat):Int)
theorem spanL_succ (a d:Nat):spanL a d++[.int .i64 ((a+d:Nat):Int)]=spanL a (d+1):=by unfold spanL;rw [List.range_succ];simp
def SpR (w:World) (a d:Nat) (e:Ending) (w':World):Prop:=∃ A n c,e= .returned (.slice A n c)/\Own1 w' w.heap.size 3 (.slice A n c) (spanL a d)/\Below w.heap.size w w'
theorem span_any (a t:Nat) (hat:a<=t) (ht:t<=1000000) (w:World):Calls Tryz.prog 193 #[.int .i64 (a:Int),.int .i64 (t:Int)] w (SpR w a (t - a)):=by
 obtain ⟨d,hd⟩:∃ d,d=t - a:=⟨_,rfl⟩
 rw [<- hd]
 have hta:(t:Int) - (a:Int)=(d:Int):=by omega
 have hmk:=make_capJ d (by omega)
 have HO0:Hid (Own1 (w.alloc (.cells (madeCells #[.int .i64 0] d) 3)) w.heap.size 3 (.slice (some ⟨w.heap.size,0,none⟩) 0 d) (spanL a 0)):=World.ownsRow_made (base:=w.heap.size) (e:=3) (size:=1) w (madeCells #[.int .i64 0] d) d (Nat.le_refl _) (by unfold maxLen;omega) (by rw [size_madeCells];omega)
 have HD:=Lib.hid hd
 have hdb:d<=1000000:=by omega
 clear hd
 go_enter Tryz.func193,Tryz.ntmps193
 go_wp2
 clear hta
 go_loopw [5,6] (fun v iv wr=>∃ (j x:Nat),j<=d/\iv= .int .i64 (x:Int)/\Hid (x=a+j)/\Own1 wr w.heap.size 3 v (spanL a j)/\Below w.heap.size w wr) (fun _ iv _=>t - (intOf iv).toNat)
 case atStart=>exact ⟨0,a,Nat.zero_le _,rfl,rfl,HO0.out,bel1 _ _⟩
 case round =>
  clear HO0 hmk
  obtain ⟨j,x,hj,rfl,hx,hown,hbl⟩:=hrel
  have HOWN:=Lib.hid hown
  have HBL:=Lib.hid hbl
  have hBw:w.heap.size<=wr.heap.size:=hbl.size
  obtain ⟨vA,vc,hv⟩:∃ A c,_=Value.slice A (spanL a j).length c:=hown.reads.len
  subst hv
  clear hown hbl
  by_cases hlt:x < t
  ·have hjd:j < d:=by have:=hx.out;have:=HD.out;omega
   have hxt:(x:Int) < (t:Int):=by omega
   have HL1:Hid (((spanL a j).length+1)*8<=140737488355328):=by show _<=_;rw [List.length_map,List.length_range];omega
   have HL2:Hid ((spanL a j).length+1<=140737488355328):=by show _<=_;rw [List.length_map,List.length_range];omega
   have HSN:Hid (spanL a j++[.int .i64 (x:Int)]=spanL a (j+1)):=by unfold Hid;rw [hx.out];exact spanL_succ a j
   have HX2:Hid (x+1=a+(j+1)):=by unfold Hid;have:=hx.out;omega
   generalize hXX:spanL a j=XX at *
   clear hXX
   go_wp2_with (at_builtin;refine wpList_push1' rfl (.tmp 17) (.tmp 19) 41 3 rfl Tryz.underlying41 (.int .i64 0) 8 info_intC rfl w.heap.size _ XX rfl HOWN.out (.int .i64 (x:Int)) rfl wr.heap.size rfl rfl HL1.out HL2.out hBw ?_;intro v' w1 hv' hb';rw [HSN.out] at hv';have HV:=Lib.hid hv';have HB':=Lib.hid (hb' w HBL.out);clear hb' hv')
   go_roundw
   case rel=>exact ⟨j+1,x+1,by omega,by go_num,HX2.out,HV.out,HB'.out⟩
   case measure=>simp [intOf];omega
  ·have hge:¬ (x:Int) < (t:Int):=by omega
   obtain rfl:j=d:=by have:=hx.out;have:=HD.out;omega
   generalize (spanL a j).length=nn at HOWN ⊢
   go_wp2
   go_ret
   exact ⟨vA,nn,vc,rfl,HOWN.out,HBL.out⟩
theorem cut_1 (H:Nat->Prop) (b:Sl) (bn:Int) (s i f c x:Sl) (n a t:Nat) (F:Nat->Nat) (w:World) (hH:∀ b,H b->b < w.heap.size) (hn:n<=1000000) (hat:a<=t) (htn:t<=n) (hv:Keeps H w (NumV (vecW 1 b bn s i f c x) 1 n F)) :
  Calls Tryz.prog 139 #[vecW 1 b bn s i f c x,.int .i64 (a:Int),.int .i64 (t:Int)] w (VecR H w (fun u W=>NumV u (leastF (fun j=>F (a+j)) (t - a):Nat) (t - a) (fun j=>F (a+j)) W)):=by
 obtain ⟨hbn,L,hbt,hFL⟩:=NumV.bits hv.now
 subst hbn
 have hleast:leastF (fun j=>F (a+j)) (t - a)=1:=leastF_bits _ _ (fun j=>L (a+j)) fun j hj=>hFL _ (by omega)
 rw [hleast]
 have HSM:Hid (∀ j,j < t - a->(fun j=>F (a+j)) j=(fun j=>flagF (L (a+j))) j):=fun j hj=>hFL _ (by omega)
 have HCT:Hid (∀ W,Below w.heap.size w W->Calls Tryz.prog 191 #[.agg #[.slice b.1 b.2.1 b.2.2,.int .i64 (n:Int)],.int .i64 (a:Int),.int .i64 (t:Int)] W fun e w'=>∃ g,e= .returned (.agg #[.slice (some ⟨g,0,none⟩) ((t - a+63) / 64) ((t - a+63) / 64),.int .i64 ((t - a:Nat):Int)])/\RowU w' W.heap.size g ((t - a+63) / 64) (packW (fun i=>L (a+i)) (t - a))/\Below W.heap.size W w'):=by
  intro W hb
  obtain ⟨g,o,cc,rfl,hc⟩:=hbt.below hb
  exact cut_any g o cc n a t L W (by omega) hat htn hc
 have HPK:=Lib.hid (fun W=>packed_yes b (n:Int) (.slice s.1 s.2.1 s.2.2) (.slice i.1 i.2.1 i.2.2) (.slice f.1 f.2.1 f.2.2) (.slice c.1 c.2.1 c.2.2) (.slice x.1 x.2.1 x.2.2) W)
 have HLN:=Lib.hid (fun W (hb:Below w.heap.size w W)=>(hv.step hb).now.len)
 have HS0:=Lib.hid (St.new w 1 (.slice b.1 b.2.1 b.2.2) (n:Int) (.slice s.1 s.2.1 s.2.2) (.slice i.1 i.2.1 i.2.2) (.slice f.1 f.2.1 f.2.2) (.slice c.1 c.2.1 c.2.2) (.slice x.1 x.2.1 x.2.2))
 have hm1:min (a:Int) (n:Int)=(a:Int):=by omega
 have hm2:max (0:Int) (a:Int)=(a:Int):=by omega
 have hm3:min (t:Int) (n:Int)=(t:Int):=by omega
 have hm4:max (a:Int) (t:Int)=(t:Int):=by omega
 have HH:=Lib.hid hH
 obtain ⟨d,hd⟩:∃ d,d=t - a:=⟨_,rfl⟩
 rw [<- hd] at HCT HSM ⊢
 have hdn:d<=1000000:=by omega
 clear hv hH hbt hFL hleast hat htn hn hd
 go_enter Tryz.func139,Tryz.ntmps139
 go_wp2_with fail
 refine (HLN.out _ HS0.out.bel).mono ?_
 rintro e w1 ⟨rfl,hb⟩
 have HS1:=Lib.hid (HS0.out.step hb)
 clear hb
 obtain ⟨h0,h1,h2,h3,h4,h5,h6,h7⟩:=HS1.out.box
 go_wp2_with fail
 refine (HLN.out _ HS1.out.bel).mono ?_
 rintro e w2 ⟨rfl,hb⟩
 have HS2:=Lib.hid (HS1.out.step hb)
 clear hb h0 h1 h2 h3 h4 h5 h6 h7
 obtain ⟨h0,h1,h2,h3,h4,h5,h6,h7⟩:=HS2.out.box
 go_wp2_with fail
 refine (HPK.out _).mono ?_
 rintro e w3 ⟨rfl,hb⟩
 have HS3:=Lib.hid ((HS2.out.step hb).al (.cells #[.slice b.1 b.2.1 b.2.2,.int .i64 (n:Int)] 52))
 have HV3:=Lib.hid (heap_alloc_new w3 (.cells #[.slice b.1 b.2.1 b.2.2,.int .i64 (n:Int)] 52))
 clear hb h0 h1 h2 h3 h4 h5 h6 h7
 go_wp2_with fail
 refine (HCT.out _ HS3.out.bel).mono ?_
 rintro e w5 ⟨gg,rfl,hr5,hb5⟩
 have HS5:=Lib.hid (HS3.out.step hb5)
 have HGW:Hid (w.heap.size+2<=gg):=by unfold Hid;have:=hr5.low.1;have:=HS3.out.sz;omega
 have HR5:=Lib.hid hr5
 clear hb5 hr5
 go_wp2_with fail
 refine (vbits_any _ _ _ _ _).mono ?_
 rintro e w6 ⟨rfl,hb6⟩
 have HS9:=Lib.hid (HS5.out.step hb6)
 have HR6:=Lib.hid ((HR5.out.lower (Nat.le_refl _)).below hb6)
 have HG6:=Lib.hid (HS3.out.sz)
 clear hb6
 have HRE:=Lib.hid (set8_block HS9.out.res (.int .i64 1) (.slice (some ⟨gg,0,none⟩) ((d+63) / 64) ((d+63) / 64)) (.int .i64 (d:Int)) vnil vnil vnil vnil vnil)
 have HBE:=Lib.hid (below_set8 HS9.out.bel (Nat.le_succ _) (.int .i64 1) (.slice (some ⟨gg,0,none⟩) ((d+63) / 64) ((d+63) / 64)) (.int .i64 (d:Int)) vnil vnil vnil vnil vnil)
 have HKE:Hid (Keeps H (set8 w6 (w.heap.size+1) (.int .i64 1) (.slice (some ⟨gg,0,none⟩) ((d+63) / 64) ((d+63) / 64)) (.int .i64 (d:Int)) vnil vnil vnil vnil vnil) (NumV (vecW 1 (some ⟨gg,0,none⟩,(d+63) / 64,(d+63) / 64) (d:Int) (none,0,0) (none,0,0) (none,0,0) (none,0,0) (none,0,0)) 1 d (fun j=>flagF (L (a+j))))):=by
  have h1:Keeps (fun j=>H j\/j=w.heap.size+1) w6 (fun W=>Reads1 W (.slice (some ⟨gg,0,none⟩) ((d+63) / 64) ((d+63) / 64)) ((List.range ((d+63) / 64)).map fun j => .int .u64 (packW (fun i=>L (a+i)) d j:Nat))) :=
   Own1.keepsH HR6.out (fun j e=>by
    have h2:=HG6.out
    rcases e with e | e
    ·have:=HH.out j e;omega
    ·omega)
  refine ((h1.imp fun W' h=>numV_bits (by omega) ⟨_,rfl,⟨gg,0,_,rfl,fun j hj=>?_⟩⟩).set8 (.inr rfl) _ _ _ _ _ _ _ _).sub fun _ _ e => .inl e
  exact reads_cell h j hj
 clear HR5 HR6
 obtain ⟨⟨h0,h1,h2,h3,h4,h5,h6,h7⟩,hz⟩:=boxed_of HS9.out.res
 go_wp2
 refine bodyPost_ret (ret_vec (fn:=Tryz.f139) (p:=6) rfl _ _ (w.heap.size+1) (by rfl) HRE.out) rfl ?_
 exact ⟨1,(some ⟨gg,0,none⟩,(d+63) / 64,(d+63) / 64),(d:Int),(none,0,0),(none,0,0),(none,0,0),(none,0,0),(none,0,0),rfl,HKE.out.imp fun W h=>h.congr HSM.out,HBE.out⟩
theorem cut_n (k:Int) (hk:k≠1) (H:Nat->Prop) (b:Sl) (bn:Int) (s i f c x:Sl) (n a t:Nat) (R:Value->World->Prop) (w:World) (hat:a<=t) (htn:t<=n) (hn:n<=1000000)
  (hlen:∀ W,Below w.heap.size w W->Calls Tryz.prog 48 #[vecW k b bn s i f c x] W fun e w2=>e= .returned (.int .i64 (n:Nat))/\Below W.heap.size W w2)
  (hpick:∀ W va,Below w.heap.size w W->w.heap.size+2<=W.heap.size->Reads1 W va (spanL a (t - a))->Calls Tryz.prog 192 #[vecW k b bn s i f c x,va] W (VecR (fun j=>H j\/j=w.heap.size+1) W R)) :
  Calls Tryz.prog 139 #[vecW k b bn s i f c x,.int .i64 (a:Int),.int .i64 (t:Int)] w (VecR H w R):=by
 have HPK:=Lib.hid (fun W=>packed_no k hk (.slice b.1 b.2.1 b.2.2) bn (.slice s.1 s.2.1 s.2.2) (.slice i.1 i.2.1 i.2.2) (.slice f.1 f.2.1 f.2.2) (.slice c.1 c.2.1 c.2.2) (.slice x.1 x.2.1 x.2.2) W)
 have HLN:=Lib.hid (fun W (hb:Below w.heap.size w W)=>hlen W hb)
 have HS0:=Lib.hid (St.new w k (.slice b.1 b.2.1 b.2.2) bn (.slice s.1 s.2.1 s.2.2) (.slice i.1 i.2.1 i.2.2) (.slice f.1 f.2.1 f.2.2) (.slice c.1 c.2.1 c.2.2) (.slice x.1 x.2.1 x.2.2))
 have hm1:min (a:Int) (n:Int)=(a:Int):=by omega
 have hm2:max (0:Int) (a:Int)=(a:Int):=by omega
 have hm3:min (t:Int) (n:Int)=(t:Int):=by omega
 have hm4:max (a:Int) (t:Int)=(t:Int):=by omega
 have HSP:=Lib.hid (fun W=>span_any a t hat (by omega) W)
 have HPI:=Lib.hid hpick
 unfold SpR at HSP
 generalize spanL a (t - a)=sl at HSP HPI
 clear hat htn hn hpick hlen hk
 go_enter Tryz.func139,Tryz.ntmps139
 go_wp2_with fail
 refine (HLN.out _ HS0.out.bel).mono ?_
 rintro e w1 ⟨rfl,hb⟩
 have HS1:=Lib.hid (HS0.out.step hb)
 clear hb
 obtain ⟨h0,h1,h2,h3,h4,h5,h6,h7⟩:=HS1.out.box
 go_wp2_with fail
 refine (HLN.out _ HS1.out.bel).mono ?_
 rintro e w2 ⟨rfl,hb⟩
 have HS2:=Lib.hid (HS1.out.step hb)
 clear hb h0 h1 h2 h3 h4 h5 h6 h7
 obtain ⟨h0,h1,h2,h3,h4,h5,h6,h7⟩:=HS2.out.box
 go_wp2_with fail
 refine (HPK.out _).mono ?_
 rintro e w3 ⟨rfl,hb⟩
 have HS3:=Lib.hid ((HS2.out.step hb).al (.cells #[vnil,.int .i64 0] 52))
 clear hb h0 h1 h2 h3 h4 h5 h6 h7
 go_wp2_with fail
 obtain ⟨w4,hw4⟩:∃ w4,w4=w3.alloc (.cells #[vnil,.int .i64 0] 52):=⟨_,rfl⟩
 rw [<- hw4] at HS3 ⊢
 clear hw4
 obtain ⟨h0,h1,h2,h3,h4,h5,h6,h7⟩:=HS3.out.box
 go_region_with (first
  | (go_at_call 193;(with_reducible refine (HSP.out _).mono ?_);rintro e w5 ⟨sA,sn,sc,rfl,ho,hb5⟩;have HS5:=Lib.hid (HS3.out.dr.step hb5);have HRD:=Lib.hid ho.reads;obtain ⟨q0,q1,q2,q3,q4,q5,q6,q7⟩:=HS5.out.box;clear ho hb5)
  | (go_at_call 192;(with_reducible refine (HPI.out w5 _ HS5.out.bel HS5.out.sz HRD.out).mono ?_);rintro e w6 ⟨k5,b5,bn5,s5,i5,f5,c5,x5,rfl,hk5,hb6⟩;have HS9:=Lib.hid (HS5.out.step hb6);have HK5:=Lib.hid hk5;obtain ⟨⟨r0,r1,r2,r3,r4,r5,r6,r7⟩,rz⟩:=boxed_of HS9.out.res;clear hk5 hb6))
 all_goals
  have HKF:=Lib.hid ((HK5.out.set8 (.inr rfl) (.int .i64 k5) (.slice b5.1 b5.2.1 b5.2.2) (.int .i64 bn5) (.slice s5.1 s5.2.1 s5.2.2) (.slice i5.1 i5.2.1 i5.2.2) (.slice f5.1 f5.2.1 f5.2.2) (.slice c5.1 c5.2.1 c5.2.2) (.slice x5.1 x5.2.1 x5.2.2)).sub (H':=H) fun _ _ e => .inl e)
  have HBE:=Lib.hid (below_set8 HS9.out.bel (Nat.le_succ _) (.int .i64 k5) (.slice b5.1 b5.2.1 b5.2.2) (.int .i64 bn5) (.slice s5.1 s5.2.1 s5.2.2) (.slice i5.1 i5.2.1 i5.2.2) (.slice f5.1 f5.2.1 f5.2.2) (.slice c5.1 c5.2.1 c5.2.2) (.slice x5.1 x5.2.1 x5.2.2))
  have HRE:=Lib.hid (set8_block HS9.out.res (.int .i64 k5) (.slice b5.1 b5.2.1 b5.2.2) (.int .i64 bn5) (.slice s5.1 s5.2.1 s5.2.2) (.slice i5.1 i5.2.1 i5.2.2) (.slice f5.1 f5.2.1 f5.2.2) (.slice c5.1 c5.2.1 c5.2.2) (.slice x5.1 x5.2.1 x5.2.2))
  go_wp2
  refine bodyPost_ret (ret_vec (fn:=Tryz.f139) (p:=6) rfl _ _ (w.heap.size+1) (by rfl) HRE.out) rfl ?_
  exact ⟨k5,b5,bn5,s5,i5,f5,c5,x5,rfl,HKF.out,HBE.out⟩
theorem cut_num (H:Nat->Prop) (p:V8) (n a t:Nat) (F:Nat->Nat) (w:World) (hH:∀ b,H b->b < w.heap.size) (hn:n<=1000000) (hat:a<=t) (htn:t<=n) (hv:Keeps H w (NumV p.v p.k n F)) :
  Calls Tryz.prog 139 #[p.v,.int .i64 (a:Int),.int .i64 (t:Int)] w (VecR H w (fun u W=>NumV u (leastF (fun j=>F (a+j)) (t - a):Nat) (t - a) (fun j=>F (a+j)) W)):=by
 by_cases hk:p.k=1
 ·obtain ⟨k,b,bn,s,i,f,c,x⟩:=p
  dsimp only at hk hv
  subst hk
  exact cut_1 H b bn s i f c x n a t F w hH hn hat htn hv
 ·refine cut_n p.k hk H p.b p.bn p.s p.i p.f p.c p.x n a t _ w hat htn hn (fun W hb=>(hv.step hb).now.len) fun W va hb hz hva=>?_
  exact pick_num (fun j=>H j\/j=w.heap.size+1) p n (t - a) F (fun j=>a+j) va W (fun j e=>by
   rcases e with e | e
   ·have:=hH j e;omega
   ·omega) hn (by omega) ((hv.sub (fun j hj e=>by
    rcases e with e | e
    ·exact e
    ·omega)).step hb) (fun j hj=>by omega) hva
theorem Fill.put2 {w:World}{B g:Nat}{e:TypeId}{f:Nat->Value}{z:Value}{n k:Nat} (h:Fill w B g e f z n k) (hk:k < n) (u:Value):Fill ((w.setCell ⟨g,k,none⟩ u).setCell ⟨g,k,none⟩ (f k)) B g e f z n (k+1):=by
 have h1:=(World.ownsRow.stored h k u).1
 have h2:=(World.ownsRow.stored h1 k (f k)).1
 rw [List.set_set,fillL_set _ _ _ _ hk] at h2
 exact h2
theorem info_rune:(Tryz.prog.info? 21).map (fun i=>(i.zero,i.size,i.bytes))=some (some (.int .i32 0),1,4):=by kernel_rfl
theorem those_any (z:Int) (l:List Int) (m:Nat) (K:Nat->Nat) (va vl:Value) (w:World) (hl:l.length<=1000000) (hm:m<=1000000) (hva:Reads1 w va ((List.range m).map fun j => .int .i64 (K j:Int))) (hvl:Reads1 w vl (l.map (Value.int .i32))) (hK:∀ j,j < m->K j < l.length) :
  Calls Tryz.prog 230 #[vl,va,.int .i32 z] w fun e w'=>∃ g,e= .returned (.slice (some ⟨g,0,none⟩) m m)/\Own1 w' w.heap.size 21 (.slice (some ⟨g,0,none⟩) m m) ((List.range m).map fun j => .int .i32 (l.getD (K j) 0))/\Below w.heap.size w w':=by
 obtain ⟨a1,c1,rfl,hc1⟩:=reads_at hva
 obtain ⟨A,n,cc,rfl,hn,hcl⟩:=map_open hvl
 have HC:=Lib.hid hc1
 have HL:=Lib.hid hcl
 have HN:=Lib.hid hn
 have HK:=Lib.hid hK
 have hnb:n<=1000000:=by omega
 have hmk:=run_make_row' (P:=Tryz.prog) 27 21 (.int .i32 0) 4 Tryz.underlying27 info_rune rfl .i64 .i64 m (by omega) (by omega)
 obtain ⟨ff,hff⟩:∃ ff:Nat->Value,ff=fun j => .int .i32 (l.getD (K j) 0):=⟨_,rfl⟩
 have HFF:Hid (∀ j,ff j= .int .i32 (l.getD (K j) 0)):=fun j=>by rw [hff]
 rw [<- hff]
 have HF0:=Lib.hid (Fill.made w w.heap.size (Nat.le_refl _) 21 ff (.int .i32 0) m (by unfold maxLen;omega))
 have HB0:=Lib.hid (bel1 w (.cells (madeCells #[.int .i32 0] m) 21))
 clear hff hc1 hcl hn hK hva hvl hl
 go_enter Tryz.func230,Tryz.ntmps230
 go_wp2
 go_loopw [15] (fun j wr=>∃ c:Nat,c<=m/\j= .int .i64 c/\Fill wr w.heap.size w.heap.size 21 ff (.int .i32 0) m c/\Below w.heap.size w wr) (fun j _=>m - (intOf j).toNat)
 case atStart=>exact ⟨0,Nat.zero_le _,rfl,HF0.out,HB0.out⟩
 case round =>
  clear HF0 HB0
  obtain ⟨c,hc,rfl,hfl,hbl⟩:=hrel
  have HFL:=Lib.hid hfl
  have HBL:=Lib.hid hbl
  clear hfl hbl
  by_cases hlt:c < m
  ·obtain ⟨b,o,rfl,hx⟩:=HC.out c hlt
   have hk:=HK.out c hlt
   obtain ⟨b2,o2,rfl,hy⟩:=HL.out (K c) hk
   have cx:=cell_up HBL.out hx
   have cy:=cell_up HBL.out hy
   have hFC:ff c= .int .i32 (l.getD (K c) 0):=HFF.out c
   have e1:l.getD (K c) 0=l[K c]:=by simp [List.getD,hk]
   rw [e1] at hFC
   have HP:=Lib.hid (HFL.out.put2 hlt (.int .i32 z))
   rw [hFC] at HP
   generalize l[K c]=y at cy HP
   have hkn:K c < n:=by have:=HN.out;omega
   generalize K c=k at cx cy hkn
   have hcz:=HFL.out.cell hlt
   have hfz:=HFL.out.frozen c
   have hlow:=HFL.out.low
   have hd1:b≠w.heap.size:=by have h9:b < w.heap.size:=cell_lt hx;intro e;omega
   have hd2:b2≠w.heap.size:=by have h9:b2 < w.heap.size:=cell_lt hy;intro e;omega
   have hk0:(0:Int)<=(k:Int):=by omega
   have hkn2:(k:Int) < (n:Int):=by omega
   have hlt2:(c:Int) < (m:Int):=by omega
   clear hx hy hFC e1 hk
   go_wp2
   go_roundw
   case rel=>exact ⟨c+1,by omega,by go_num,HP.out,(HBL.out.setCell (Nat.le_refl _) _).setCell (Nat.le_refl _) _⟩
   case measure=>simp [intOf];omega
  ·obtain rfl:c=m:=by omega
   have hge:¬ (c:Int) < (c:Int):=by omega
   go_wp2
   go_ret
   exact ⟨w.heap.size,rfl,HFL.out.own,HBL.out⟩
abbrev ngF:Nat->Value:=fun _ => .int .i64 (-1)
structure NewI (B:Nat) (p:V8) (T g S k:Nat) (W:World):Prop where
 vec:BoxP W T p
 slot:W.cell? ⟨T,8,none⟩=some (.slice (some ⟨g,0,none⟩) S S)
 mask:W.cell? ⟨T,9,none⟩=some (.int .u64 ((S - 1:Nat):Int))
 fill:Fill W B g 3 ngF (.int .i64 0) S k
 ne:T≠g
 low:B<=T
theorem NewI.put {B:Nat}{p:V8}{T g S k:Nat}{W:World} (h:NewI B p T g S k W) (hk:k < S):NewI B p T g S (k+1) (W.setCell ⟨g,k,none⟩ (.int .i64 (-1))):=by
 have hb:(W.setCell ⟨g,k,none⟩ (.int .i64 (-1))).heap[T]?=W.heap[T]?:=Below.heap_setCell _ _ _ _ h.ne
 have e:∀ j,(W.setCell ⟨g,k,none⟩ (.int .i64 (-1))).cell? ⟨T,j,none⟩=W.cell? ⟨T,j,none⟩:=fun _=>World.cell?_of_block (w:=W) hb
 obtain ⟨v0,v1,v2,v3,v4,v5,v6,v7⟩:=h.vec
 exact ⟨⟨by rw [e];exact v0,by rw [e];exact v1,by rw [e];exact v2,by rw [e];exact v3,by rw [e];exact v4,by rw [e];exact v5,by rw [e];exact v6,by rw [e];exact v7⟩,by rw [e];exact h.slot,by rw [e];exact h.mask,h.fill.put hk,h.ne,h.low⟩
theorem NewI.tab {B:Nat}{p:V8}{T g S:Nat}{W:World} (h:NewI B p T g S S W):TabM B p T g S (List.replicate S (-1)) W:=by
 refine ⟨h.vec,h.slot,h.mask,?_,by simp,h.ne,h.low⟩
 have h1:=h.fill.own
 have e:(List.range S).map ngF=(List.replicate S (-1:Int)).map (Value.int .i64):=by
  apply List.ext_getElem
  ·simp
  ·intro i h1 h2;simp
 rw [<- e]
 exact h1
theorem make_int (n:Nat) (hn:n<=4194304) (w:World):(Instr.makeSlice 41 (.int .i64 (n:Int)) (.int .i64 (n:Int))).run Tryz.prog w= .ok (.slice (some ⟨w.heap.size,0,none⟩) n n) (w.alloc (.cells (madeCells #[.int .i64 0] n) 3)):=by
 obtain ⟨i,hi,hz,hs,hb⟩:=info_parts info_intC
 have hr:=run_make (P:=Tryz.prog) w 41 3 i (.int .i64 0) Tryz.underlying41 hi hz .i64 .i64 (n:Int) (n:Int) (by omega) (Int.le_refl _) (by rw [hb];omega) (by omega)
 simp only [Int.toNat_natCast,hs,Nat.mul_one] at hr
 exact hr
abbrev tabO (p:V8) (g S:Nat):Obj := .cells #[.int .i64 p.k,.slice p.b.1 p.b.2.1 p.b.2.2,.int .i64 p.bn,.slice p.s.1 p.s.2.1 p.s.2.2,.slice p.i.1 p.i.2.1 p.i.2.2,.slice p.f.1 p.f.2.1 p.f.2.2,.slice p.c.1 p.c.2.1 p.c.2.2,.slice p.x.1 p.x.2.1 p.x.2.2,.slice (some ⟨g,0,none⟩) S S,.int .u64 ((S - 1:Nat):Int)] 205
theorem NewI.step {B:Nat}{p:V8}{T g S k:Nat}{W W':World} (h:NewI B p T g S k W) (hb:Below W.heap.size W W'):NewI B p T g S k W':=by
 have hT:=cell_lt h.slot
 have e:∀ j,W'.cell? ⟨T,j,none⟩=W.cell? ⟨T,j,none⟩:=fun _=>World.cell?_of_block (w:=W) (hb.block T hT)
 obtain ⟨v0,v1,v2,v3,v4,v5,v6,v7⟩:=h.vec
 exact ⟨⟨by rw [e];exact v0,by rw [e];exact v1,by rw [e];exact v2,by rw [e];exact v3,by rw [e];exact v4,by rw [e];exact v5,by rw [e];exact v6,by rw [e];exact v7⟩,by rw [e];exact h.slot,by rw [e];exact h.mask,h.fill.below hb,h.ne,h.low⟩
theorem newI_made (B:Nat) (p:V8) (S:Nat) (hS:S<=4194304) (W:World) (hB:B<=W.heap.size):NewI B p (W.heap.size+1) W.heap.size S 0 ((W.alloc (.cells (madeCells #[.int .i64 0] S) 3)).alloc (tabO p W.heap.size S)):=by
 have h1:=heap_alloc_new (W.alloc (.cells (madeCells #[.int .i64 0] S) 3)) (tabO p W.heap.size S)
 rw [show (W.alloc (.cells (madeCells #[.int .i64 0] S) 3)).heap.size=W.heap.size+1 by simp] at h1
 have c:=fun j=>cell_of_row _ (W.heap.size+1) j _ _ (0,0) h1
 exact ⟨⟨c 0,c 1,c 2,c 3,c 4,c 5,c 6,c 7⟩,c 8,c 9,(Fill.made W B hB 3 ngF (.int .i64 0) S (by unfold maxLen;omega)).below (bel1 _ _),by omega,by omega⟩
def NewR (p:V8) (n:Nat) (w:World) (e:Ending) (w':World):Prop:=∃ T g S m:Nat,e= .returned (.pointer (some ⟨T,0,none⟩))/\S=2 ^ m/\8<=S/\S<=4194304/\2*n<=S/\TabM w.heap.size p T g S (List.replicate S (-1)) w'/\Below w.heap.size w w'
theorem newR_of {p:V8}{n T g S m:Nat}{w w':World} (h1:S=2 ^ m) (h2:8<=S) (h3:S<=4194304) (h4:2*n<=S) (h5:TabM w.heap.size p T g S (List.replicate S (-1)) w') (h6:Below w.heap.size w w'):NewR p n w (.returned (.pointer (some ⟨T,0,none⟩))) w':=⟨T,g,S,m,rfl,h1,h2,h3,h4,h5,h6⟩
theorem new_any (p:V8) (n:Nat) (hn:n<=1000000) (w:World):Calls Tryz.prog 142 #[p.v,.int .i64 (n:Int)] w (NewR p n w):=by
 have HS0:=Lib.hid (V1B.new w p)
 go_enter Tryz.func142,Tryz.ntmps142
 obtain ⟨wz,hwz⟩:∃ wz,wz=w.alloc p.o:=⟨_,rfl⟩
 go_wp2
 rw [<- hwz] at HS0
 have HWZ:=Lib.hid hwz
 clear hwz
 rw [<- HWZ.out]
 go_loopw [5] (fun sz wr=>∃ S m:Nat,sz= .int .i64 (S:Int)/\Hid (S=2 ^ m)/\8<=S/\m<=22/\V1B w wr p) (fun sz _=>4194304 - (intOf sz).toNat)
 case atStart=>exact ⟨8,3,rfl,(by decide:8=2 ^ 3),Nat.le_refl _,by decide,HS0.out⟩
 case round =>
  obtain ⟨S,m,rfl,hS,h8,hm,hti⟩:=hrel
  have HTI:=Lib.hid hti
  have HSM:Hid (S=2 ^ m):=hS
  have hS22:S<=4194304:=by
   have h1:2 ^ m<=2 ^ 22:=Nat.pow_le_pow_right (by decide) hm
   have:=HSM.out
   omega
  clear hti hS HS0 HWZ
  by_cases h1:(S:Int) < 2*(n:Int)
  ·by_cases h2:(S:Int) < 4194304
   ·go_wp2
    go_roundw
    case rel =>
     refine ⟨S*2,m+1,by go_num,?_,by omega,?_,HTI.out⟩
     ·show S*2=2 ^ (m+1)
      rw [Nat.pow_succ,<- HSM.out]
     ·have:m≠22:=fun e=>by
       have h9:=HSM.out
       rw [e] at h9
       omega
      omega
    case measure=>simp [intOf];omega
   ·exact absurd (by omega) h2
  ·have hle:2*n<=S:=by omega
   obtain ⟨c0,c1,c2,c3,c4,c5,c6,c7⟩:=HTI.out.one
   have hwr:IntKind.u64.wrap ((S:Int) - 1)=((S - 1:Nat):Int):=by rw [<- wrap_u64_nat (S - 1) (by omega),Int.natCast_sub (by omega)];rfl
   go_wp2_with fail
   have hmk:=make_int S hS22
   obtain ⟨d0,d1,d2,d3,d4,d5,d6,d7⟩:=(HTI.out.step (bel1 wr (.cells (madeCells #[.int .i64 0] S) 3))).one
   have HNI:=Lib.hid (newI_made w.heap.size p S hS22 wr HTI.out.bel.size)
   have HBL:Hid (Below w.heap.size w ((wr.alloc (.cells (madeCells #[.int .i64 0] S) 3)).alloc (tabO p wr.heap.size S))):=(HTI.out.bel.alloc HTI.out.bel.size _).alloc (by have:=HTI.out.bel.size;simp;omega) _
   go_cut [6] from 6 (fun x wx=>∃ T g:Nat,x= .pointer (some ⟨T,0,none⟩)/\NewI w.heap.size p T g S 0 wx/\Below w.heap.size w wx)
   case first =>
    go_region
    all_goals
     go_wp2
     go_meet
     exact ⟨_,_,rfl,HNI.out.step (Below.refl _ _).drew,HBL.out.drew⟩
   obtain ⟨T,g,rfl,hni,hbl⟩:=hcut
   have HNJ:=Lib.hid hni
   have HBJ:=Lib.hid hbl
   have hsl:=hni.slot
   clear hni hbl HNI HBL c0 c1 c2 c3 c4 c5 c6 c7 d0 d1 d2 d3 d4 d5 d6 d7 HTI hwr hmk
   go_wp2
   go_loopw [31] (fun iv wr=>∃ i:Nat,i<=S/\iv= .int .i64 (i:Int)/\NewI w.heap.size p T g S i wr/\Below w.heap.size w wr) (fun iv _=>S - (intOf iv).toNat)
   case atStart=>exact ⟨0,Nat.zero_le _,rfl,HNJ.out,HBJ.out⟩
   case round =>
    obtain ⟨i,hi,rfl,hni,hbl⟩:=hrel
    have HNI:=Lib.hid hni
    have HBL:=Lib.hid hbl
    clear hsl
    by_cases hlt:i < S
    ·have hlt2:(i:Int) < (S:Int):=by omega
     have hsl:=hni.slot
     have hfz:=hni.fill.frozen i
     have hce:=hni.fill.cell hlt
     have HPU:=Lib.hid (hni.put hlt)
     have HBU:=Lib.hid (hni.fill.bel hbl i (.int .i64 (-1)))
     clear hni hbl
     go_wp2
     go_roundw
     case rel=>exact ⟨i+1,by omega,by go_num,HPU.out,HBU.out⟩
     case measure=>simp [intOf];omega
    ·have hge:¬ (i:Int) < (S:Int):=by omega
     have hie:i=S:=by omega
     subst hie
     clear hni hbl
     go_wp2
     go_ret
     exact newR_of HSM.out h8 hS22 hle HNI.out.tab HBL.out
theorem TabM.ownr {B:Nat}{p:V8}{T g S:Nat}{L:List Int}{W:World} (h:TabM B p T g S L W):W.ownsRow B 3 1 (.slice (some ⟨g,0,none⟩) S S) S (L.map (Value.int .i64)):=by
 have h9:=h.row
 unfold Own1 at h9
 rw [List.length_map,h.len] at h9
 exact h9
theorem TabM.set {B:Nat}{p:V8}{T g S:Nat}{L:List Int}{W:World} (h:TabM B p T g S L W) (x:Nat) (c:Int):TabM B p T g S (L.set x c) (W.setCell ⟨g,x,none⟩ (.int .i64 c)):=by
 have hb:(W.setCell ⟨g,x,none⟩ (.int .i64 c)).heap[T]?=W.heap[T]?:=Below.heap_setCell _ _ _ _ h.ne
 have e:∀ j,(W.setCell ⟨g,x,none⟩ (.int .i64 c)).cell? ⟨T,j,none⟩=W.cell? ⟨T,j,none⟩:=fun _=>World.cell?_of_block (w:=W) hb
 have h1:=(World.ownsRow.stored h.ownr x (.int .i64 c)).1
 rw [<- List.map_set] at h1
 obtain ⟨v0,v1,v2,v3,v4,v5,v6,v7⟩:=h.vec
 refine ⟨⟨by rw [e];exact v0,by rw [e];exact v1,by rw [e];exact v2,by rw [e];exact v3,by rw [e];exact v4,by rw [e];exact v5,by rw [e];exact v6,by rw [e];exact v7⟩,by rw [e];exact h.slot,by rw [e];exact h.mask,?_,by rw [List.length_set,h.len],h.ne,h.low⟩
 unfold Own1
 rw [List.length_map,List.length_set,h.len]
 exact h1
def PutR (B:Nat) (p:V8) (T g S:Nat) (L:List Int) (kn:Nat) (al:Nat->Bool) (c:Nat) (w:World) (e:Ending) (w':World):Prop :=
 ∃ pl,FndP S L kn al pl/\((L.getD pl 0=-1/\e= .returned (.int .i64 (c:Int))/\TabM B p T g S (L.set pl (c:Int)) w')\/∃ j:Nat,L.getD pl 0=(j:Int)/\e= .returned (.int .i64 (j:Int))/\TabM B p T g S L w')/\Lat (fun b=>b=g) w w'/\Below B w w'
theorem putR_new {B:Nat}{p:V8}{T g S:Nat}{L:List Int}{kn:Nat}{al:Nat->Bool}{c:Nat}{w w1:World}{pl:Nat} (hf:FndP S L kn al pl) (hX:L.getD pl 0=-1) (hb:Below w.heap.size w w1) (hw:B<=w.heap.size) (ht:TabM B p T g S L w1):PutR B p T g S L kn al c w (.returned (.int .i64 (c:Int))) (w1.setCell ⟨g,pl,none⟩ (.int .i64 (c:Int))) :=
 ⟨pl,hf,.inl ⟨hX,rfl,ht.set pl c⟩,(Lat.below hb).trans (Lat.set (H:=fun b=>b=g) (a:=⟨g,pl,none⟩) rfl _),(hb.mono hw).setCell ht.lt.2.1 _⟩
theorem putR_old {B:Nat}{p:V8}{T g S:Nat}{L:List Int}{kn:Nat}{al:Nat->Bool}{c:Nat}{w w1:World}{pl j:Nat} (hf:FndP S L kn al pl) (hX:L.getD pl 0=(j:Int)) (hb:Below w.heap.size w w1) (hw:B<=w.heap.size) (ht:TabM B p T g S L w1):PutR B p T g S L kn al c w (.returned (.int .i64 (j:Int))) w1 :=
 ⟨pl,hf,.inr ⟨j,hX,rfl,ht⟩,Lat.below hb,hb.mono hw⟩
theorem put_any {B:Nat}{p:V8}{T g S m:Nat}{L:List Int} (hS:S=2 ^ m) (hS2:S<=4194304) (w:World) (hB:B<=w.heap.size) (ht:TabM B p T g S L w) (kz:Int) (hkz:InK kz) (c n:Nat) (al:Nat->Bool)
  (hL:∀ x,x < S->L.getD x 0=-1\/∃ j:Nat,j < n/\L.getD x 0=(j:Int)) (hfree:∃ d,d < S/\L.getD ((kz.toNat+d) % S) 0=-1)
  (hKE:∀ W,Below w.heap.size w W->Calls Tryz.prog 239 #[p.v,.int .i64 (c:Int)] W (KeyR kz W))
  (hAL:∀ j,j < n->∀ W,Below w.heap.size w W->Calls Tryz.prog 240 #[p.v,.int .i64 (j:Int),p.v,.int .i64 (c:Int)] W fun e w'=>e= .returned (.bool (al j))/\Below W.heap.size W w') :
  Calls Tryz.prog 143 #[.pointer (some ⟨T,0,none⟩),.int .i64 (c:Int)] w (PutR B p T g S L kz.toNat al c w):=by
 have HFI:=Lib.hid (find_any hS hS2 w ht kz hkz c n al hL hfree hKE hAL)
 have HT:=Lib.hid ht
 have HL:=Lib.hid hL
 have HSP:Hid (0 < S):=by obtain ⟨d,hd,_⟩:=hfree;show 0 < S;omega
 have hne:=ht.ne
 unfold FindR at HFI
 clear ht hL hfree hKE hAL hS
 go_enter Tryz.func143,Tryz.ntmps143
 obtain ⟨c0,c1,c2,c3,c4,c5,c6,c7⟩:=HT.out.vec
 go_wp2_with fail
 refine HFI.out.mono ?_
 rintro e w1 ⟨pl,rfl,hf,hb⟩
 have HF:=Lib.hid hf
 have HBL:=Lib.hid hb
 have HT1:=Lib.hid (HT.out.step hb)
 have hpl:pl < S:=by
  obtain ⟨d,hd,rfl,_⟩:=hf
  exact Nat.mod_lt _ HSP.out
 have hlt2:(pl:Int) < (S:Int):=by omega
 have csl:=HT1.out.slot
 have cat:=HT1.out.at_ hpl
 have cfz:=World.ownsRow.frozenAt HT1.out.ownr pl
 clear hf hb c0 c1 c2 c3 c4 c5 c6 c7 HFI HT
 rcases HL.out pl hpl with hX | ⟨j,hj,hX⟩
 ·rw [hX] at cat
  have HX:=Lib.hid hX
  clear hX
  go_wp2
  go_ret
  exact putR_new HF.out HX.out HBL.out hB HT1.out
 ·rw [hX] at cat
  have hj0:¬ (j:Int) < 0:=by omega
  have HX:=Lib.hid hX
  clear hX
  go_wp2
  go_ret
  exact putR_old HF.out HX.out HBL.out hB HT1.out
theorem Own1.latg {w w':World}{B g:Nat}{e:TypeId}{v:Value}{xs:List Value} (h:Own1 w B e v xs) (l:Lat (fun b=>b=g) w w') (hg:g < B):Own1 w' B e v xs:=by
 refine ⟨h.1,?_⟩
 rcases h.2 with h2 | ⟨g',cap,cur,hv,hbg,hq,r⟩
 ·exact .inl h2
 ·refine .inr ⟨g',cap,cur,hv,hbg,?_,r⟩
  have hlt:g' < w.heap.size:=by
   rcases Nat.lt_or_ge g' w.heap.size with hlt | hge
   ·exact hlt
   ·rw [Array.getElem?_eq_none hge] at hq;cases hq
  rw [l.block g' hlt (fun e=>by omega)];exact hq
theorem V1B.keepB {w W W':World}{p:V8}{B:Nat} (h:V1B w W p) (hb:Below B W W') (hB:w.heap.size < B):V1B w W' p:=by
 have e:∀ j,W'.cell? ⟨w.heap.size,j,none⟩=W.cell? ⟨w.heap.size,j,none⟩:=fun _=>World.cell?_of_block (w:=W) (hb.block _ hB)
 obtain ⟨v0,v1,v2,v3,v4,v5,v6,v7⟩:=h.one
 exact ⟨⟨by rw [e];exact v0,by rw [e];exact v1,by rw [e];exact v2,by rw [e];exact v3,by rw [e];exact v4,by rw [e];exact v5,by rw [e];exact v6,by rw [e];exact v7⟩,h.bel.trans (hb.mono (by omega))⟩
theorem v1b_s {w W:World}{p:V8} (h:V1B w W p):(W.cell? ⟨w.heap.size,0,none⟩=some (.int .i64 p.k)/\W.cell? ⟨w.heap.size,1,none⟩=some (.slice p.b.1 p.b.2.1 p.b.2.2)/\W.cell? ⟨w.heap.size,2,none⟩=some (.int .i64 p.bn)/\W.cell? ⟨w.heap.size,3,none⟩=some (.slice p.s.1 p.s.2.1 p.s.2.2)/\W.cell? ⟨w.heap.size,4,none⟩=some (.slice p.i.1 p.i.2.1 p.i.2.2)/\W.cell? ⟨w.heap.size,5,none⟩=some (.slice p.f.1 p.f.2.1 p.f.2.2)/\W.cell? ⟨w.heap.size,6,none⟩=some (.slice p.c.1 p.c.2.1 p.c.2.2)/\W.cell? ⟨w.heap.size,7,none⟩=some (.slice p.x.1 p.x.2.1 p.x.2.2))/\V1B w W p:=⟨h.one,h⟩
theorem V1B.dr {w W:World}{p:V8} (h:V1B w W p):V1B w W.drew p:=h.step (Below.refl _ W).drew
noncomputable def fstB (a:PA) (i:Nat):Bool:=@decide (fstI (elA a) i) (Classical.propDecidable _)
theorem fstB_iff {a:PA}{i:Nat}:fstB a i=true↔fstI (elA a) i:=@decide_eq_true_iff _ (Classical.propDecidable _)
noncomputable def fstsL (a:PA) (k:Nat):List Nat:=(List.range k).filter fun i=>fstB a i
theorem fstsL_yes {a:PA}{k:Nat} (h:fstI (elA a) k):fstsL a (k+1)=fstsL a k++[k]:=by
 unfold fstsL
 rw [List.range_succ,List.filter_append,List.filter_cons_of_pos (fstB_iff.2 h)]
 rfl
theorem fstsL_no {a:PA}{k:Nat} (h:¬ fstI (elA a) k):fstsL a (k+1)=fstsL a k:=by
 unfold fstsL
 rw [List.range_succ,List.filter_append,List.filter_cons_of_neg (fun e=>h (fstB_iff.1 e))]
 simp
theorem fstsL_le (a:PA) (k:Nat):(fstsL a k).length<=k:=by
 unfold fstsL
 exact Nat.le_trans (List.length_filter_le _ _) (by simp)
noncomputable abbrev fstV (a:PA) (k:Nat):List Value:=(fstsL a k).map fun i:Nat => .int .i64 (i:Int)
def FsR (a:PA) (w:World) (e:Ending) (w':World):Prop:=∃ A n c,e= .returned (.slice A n c)/\Own1 w' w.heap.size 3 (.slice A n c) (fstV a a.len)/\Below w.heap.size w w'
structure FsI (a:PA) (p:V8) (B B1 T g S i:Nat) (vv:Value) (w W:World):Prop where
 tab:∃ L,TabI S i (elA a) (fun x=>(keyI x).toNat) L/\TabM B p T g S L W
 own:Own1 W B1 3 vv (fstV a i)
 box:V1B w W p
 sz:B1<=W.heap.size
theorem fndO_of {S:Nat}{L:List Int}{el:Nat->RI}{x:RI}{kn pl:Nat} (h:FndP S L kn (fun j=>eqI (el j) x) pl):FindO S L el x kn pl:=by
 obtain ⟨d,h1,h2,h3,h4⟩:=h
 refine ⟨d,h1,h2,fun d' hd'=>?_,?_⟩
 ·obtain ⟨j,e1,e2⟩:=h3 d' hd'
  exact ⟨j,e1,eqI_no.1 e2⟩
 ·rcases h4 with h4 | ⟨j,e1,e2⟩
  ·exact .inl h4
  ·exact .inr ⟨j,e1,eqI_iff.1 e2⟩
def PfR (a:PA) (p:V8) (B B1 T g S i:Nat) (vv:Value) (w:World) (e:Ending) (W':World):Prop :=
 ∃ z:Int,e= .returned (.int .i64 z)/\((z=i/\fstI (elA a) i)\/(z≠i/\¬ fstI (elA a) i))/\(∃ L,TabI S (i+1) (elA a) (fun x=>(keyI x).toNat) L/\TabM B p T g S L W')/\Own1 W' B1 3 vv (fstV a i)/\V1B w W' p/\B1<=W'.heap.size
theorem put_fst {Ha:Nat->Prop}{a:PA}{h:Sl}{p:V8}{B B1 T g S m i:Nat}{vv:Value}{w W:World} (d:Nat) (hgd:GoodA (d+1) a) (hs:SmA 1000000 a) (ga:AV Ha w a h p) (hS:S=2 ^ m) (h8:8<=S) (hS2:S<=4194304) (hn:2*a.len<=S) (hi:i < a.len) (hB:w.heap.size < B) (hB1:B<=B1) (hg:g < B1) (hf:FsI a p B B1 T g S i vv w W) :
  Calls Tryz.prog 143 #[.pointer (some ⟨T,0,none⟩),.int .i64 (i:Int)] W (PfR a p B B1 T g S i vv w):=by
 obtain ⟨L,htab,htm⟩:=hf.tab
 have hbW:=hf.box.bel
 refine (put_any hS hS2 W (Nat.le_trans hB1 hf.sz) htm (keyI (elA a i)) (keyI_in _) i i (fun j=>eqI (elA a j) (elA a i)) (fun x hx=>?_) (htab.dist (by omega) _) (fun W' hb'=>key_any d hgd hs ga i hi W' (bel_both hbW hb')) (fun j hj W' hb'=>galike_any d hgd hs hgd hs ga ga rfl j i (by omega) hi W' (bel_both hbW hb'))).mono ?_
 ·rcases htab.ok x hx with e | ⟨j,e1,e2,_⟩
  ·exact .inl e
  ·exact .inr ⟨j,e1,e2⟩
 ·rintro e W' ⟨pl,hfp,hc,hl,hb⟩
  have hfo:=fndO_of hfp
  have hown:=hf.own.latg hl hg
  have hbox:=hf.box.keepB hb hB
  have hsz:B1<=W'.heap.size:=Nat.le_trans hf.sz hb.size
  rcases hc with ⟨hX,rfl,ht⟩ | ⟨j,hX,rfl,ht⟩
  ·have h1:=htab.put hfo hX
   exact ⟨i,rfl,.inl ⟨rfl,h1.2⟩,⟨_,h1.1,ht⟩,hown,hbox,hsz⟩
  ·obtain ⟨d1,hd1,hpl,hbd,hla⟩:=hfo
   have hpS:pl < S:=by rw [hpl];exact Nat.mod_lt _ (by omega)
   rcases hla with h2 | ⟨j2,h2,h3⟩
   ·omega
   rw [hX] at h2
   have e2:j=j2:=by omega
   subst e2
   rcases htab.ok pl hpS with h4 | ⟨j3,h5,h4,_⟩
   ·omega
   rw [hX] at h4
   have e3:j=j3:=by omega
   subst e3
   have hnf:¬ fstI (elA a) i:=fun hff=>hff j h5 h3
   exact ⟨j,rfl,.inr ⟨by omega,hnf⟩,⟨L,htab.keep hnf,ht⟩,hown,hbox,hsz⟩
theorem firsts_any {Ha:Nat->Prop}{a:PA}{h:Sl}{p:V8} (d:Nat) (hgd:GoodA (d+1) a) (hs:SmA 1000000 a) (hn:a.len<=1000000) (w:World) (ga:AV Ha w a h p):Calls Tryz.prog 97 #[p.v] w (FsR a w):=by
 have HL:=Lib.hid (fun W (hb:Below w.heap.size w W)=>av_len ga W hb)
 have HNW:=Lib.hid (fun W=>new_any p a.len hn W)
 have HPF:=Lib.hid (fun B B1 T g S m i vv W (x1:S=2 ^ m) x2 x3 x4 x5 x6 x7 x8 x9=>put_fst (Ha:=Ha) (h:=h) (p:=p) (B:=B) (B1:=B1) (T:=T) (g:=g) (S:=S) (m:=m) (i:=i) (vv:=vv) (w:=w) (W:=W) d hgd hs ga x1 x2 x3 x4 x5 x6 x7 x8 x9)
 have HS0:=Lib.hid (V1B.new w p)
 have HSN:Hid (∀ k,fstI (elA a) k->fstV a k++[.int .i64 (k:Int)]=fstV a (k+1)):=fun k hk=>by unfold fstV;rw [fstsL_yes hk,List.map_append];rfl
 have HNO:Hid (∀ k,¬ fstI (elA a) k->fstV a (k+1)=fstV a k):=fun k hk=>by unfold fstV;rw [fstsL_no hk]
 have HLE:Hid (∀ k,(fstV a k).length<=k):=fun k=>by rw [List.length_map];exact fstsL_le a k
 unfold FsR
 generalize hnn:a.len=n at *
 clear ga hs hgd
 unfold NewR at HNW
 unfold PfR at HPF
 go_enter Tryz.func97,Tryz.ntmps97
 go_wp2_with fail
 go_cut [4] from 4 (fun x wx=>∃ B T g S m:Nat,x= .pointer (some ⟨T,0,none⟩)/\S=2 ^ m/\8<=S/\S<=4194304/\2*n<=S/\w.heap.size < B/\B<=wx.heap.size/\TabM B p T g S (List.replicate S (-1)) wx/\V1B w wx p)
 case first =>
  have hs0:V1B w (w.alloc p.o).drew p:=HS0.out.dr
  have hs00:=HS0.out
  go_region_held3 (fun W=>(W.cell? ⟨w.heap.size,0,none⟩=some (.int .i64 p.k)/\W.cell? ⟨w.heap.size,1,none⟩=some (.slice p.b.1 p.b.2.1 p.b.2.2)/\W.cell? ⟨w.heap.size,2,none⟩=some (.int .i64 p.bn)/\W.cell? ⟨w.heap.size,3,none⟩=some (.slice p.s.1 p.s.2.1 p.s.2.2)/\W.cell? ⟨w.heap.size,4,none⟩=some (.slice p.i.1 p.i.2.1 p.i.2.2)/\W.cell? ⟨w.heap.size,5,none⟩=some (.slice p.f.1 p.f.2.1 p.f.2.2)/\W.cell? ⟨w.heap.size,6,none⟩=some (.slice p.c.1 p.c.2.1 p.c.2.2)/\W.cell? ⟨w.heap.size,7,none⟩=some (.slice p.x.1 p.x.2.1 p.x.2.2))/\V1B w W p)
   (first | (with_reducible assumption) | (with_reducible (refine v1b_s ?_);repeat (first | (with_reducible assumption) | (with_reducible refine V1B.dr ?_))))
   (first
    | (go_at_call 48;(with_reducible refine (HL.out _ ?_).mono ?_);exact V1B.bel (by repeat (first | (with_reducible assumption) | (with_reducible refine V1B.dr ?_)));rintro e w1 ⟨rfl,hb1⟩;have hst1:V1B w w1 p:=V1B.step (by repeat (first | (with_reducible assumption) | (with_reducible refine V1B.dr ?_))) hb1;clear hb1)
    | (go_at_call 142;(with_reducible refine (HNW.out _).mono ?_);rintro e w2 ⟨T,g,S,m,rfl,k1,k2,k3,k4,ht,hb2⟩;have hst2:V1B w w2 p:=V1B.step (by repeat (first | (with_reducible assumption) | (with_reducible refine V1B.dr ?_))) hb2))
  all_goals
   go_wp2
   go_meet
   exact ⟨w1.heap.size,T,g,S,m,rfl,k1,k2,k3,k4,cell_lt hst1.one.1,hb2.size,ht,hst2⟩
 obtain ⟨B,T,g,S,m,rfl,k1,k2,k3,k4,k5,k6,ht,hst⟩:=hcut
 have HST:=Lib.hid hst
 have HTM:=Lib.hid ht
 have HKS:Hid (S=2 ^ m):=k1
 obtain ⟨B1,hB1⟩:∃ B1,B1=wc.heap.size:=⟨_,rfl⟩
 have HB1:Hid (B<=B1/\g < B1/\T < B1):=⟨by omega,by rw [hB1];exact ht.lt.2.2,by rw [hB1];exact ht.lt.1⟩
 have HFS:Hid (FsI a p B B1 T g S 0 (.slice none 0 0) w wc):=⟨⟨_,TabI.new S _ _,ht⟩,Own1.nil _ _ _,hst,by omega⟩
 clear hst ht k1 HS0 HNW
 obtain ⟨c0,c1,c2,c3,c4,c5,c6,c7⟩:=HST.out.one
 go_wp2_with fail
 refine (HL.out _ HST.out.bel).mono ?_
 rintro e w4 ⟨rfl,hb⟩
 have HF4:Hid (FsI a p B B1 T g S 0 (.slice none 0 0) w w4):=⟨⟨_,TabI.new S _ _,HTM.out.step hb⟩,Own1.nil _ _ _,HST.out.step hb,by have:=hb.size;omega⟩
 clear hb c0 c1 c2 c3 c4 c5 c6 c7 HST HTM HL hB1 HFS
 go_wp2
 go_loopw [3,12] (fun vv iv wr=>∃ i:Nat,i<=n/\iv= .int .i64 (i:Int)/\FsI a p B B1 T g S i vv w wr) (fun _ iv _=>n - (intOf iv).toNat)
 case atStart=>exact ⟨0,Nat.zero_le _,rfl,HF4.out⟩
 case round =>
  obtain ⟨i,hi,rfl,hfs⟩:=hrel
  have HFI:=Lib.hid hfs
  obtain ⟨vA,vc,hv⟩:∃ A c,_=Value.slice A (fstV a i).length c:=hfs.own.reads.len
  subst hv
  clear hfs HF4
  by_cases hlt:i < n
  ·have hlt2:(i:Int) < (n:Int):=by omega
   have HX:=Lib.hid (HPF.out B B1 T g S m i _ wr HKS.out k2 k3 k4 hlt k5 HB1.out.1 HB1.out.2.1 HFI.out)
   go_wp2_with fail
   refine HX.out.mono ?_
   rintro e w5 ⟨z,rfl,hz,htb,hown,hbx,hsz⟩
   have HTB:=Lib.hid htb
   have HOWN:=Lib.hid hown
   have HBX:=Lib.hid hbx
   clear HX htb hown hbx
   rcases hz with ⟨rfl,hfst⟩ | ⟨hne,hnf⟩
   ·have HSI:=Lib.hid (HSN.out i hfst)
    have HL1:Hid (((fstV a i).length+1)*8<=140737488355328):=by have:=HLE.out i;show _<=_;omega
    have HL2:Hid ((fstV a i).length+1<=140737488355328):=by have:=HLE.out i;show _<=_;omega
    clear hfst
    generalize hXX:fstV a i=XX at *
    clear hXX
    go_wp2_with (at_builtin;refine wpList_push1' rfl (.tmp 20) (.tmp 22) 41 3 rfl Tryz.underlying41 (.int .i64 0) 8 info_intC rfl B1 _ XX rfl HOWN.out (.int .i64 (i:Int)) rfl w5.heap.size rfl rfl HL1.out HL2.out hsz ?_;intro v' w6 hv' hb';rw [HSI.out] at hv';have HV:=Lib.hid hv';have HB':=Lib.hid (hb' w5 (Below.refl _ _));clear hb' hv')
    go_roundw
    case rel=>exact ⟨i+1,by omega,by go_num,by
     obtain ⟨L,e1,e2⟩:=HTB.out
     have hT1:T < B1:=HB1.out.2.2
     exact ⟨⟨L,e1,e2.keep (HB'.out.block T hT1) (HB'.out.block g HB1.out.2.1)⟩,HV.out,HBX.out.keepB HB'.out (by have:=HB1.out.1;omega),Nat.le_trans hsz HB'.out.size⟩⟩
    case measure=>simp [intOf];omega
   ·have hne2:(z==(i:Int))=false:=beq_eq_false_iff_ne.2 hne
    have HNI:=Lib.hid (HNO.out i hnf)
    clear hne hnf
    generalize (fstV a i).length=nn at HOWN ⊢
    go_wp2
    go_roundw
    case rel=>exact ⟨i+1,by omega,by go_num,HTB.out,by rw [HNI.out];exact HOWN.out,HBX.out,hsz⟩
    case measure=>simp [intOf];omega
  ·have hge:¬ (i:Int) < (n:Int):=by omega
   obtain rfl:i=n:=by omega
   have HOW:Hid (Own1 wr w.heap.size 3 (.slice vA (fstV a i).length vc) (fstV a i)):=HFI.out.own.lower (by have:=HB1.out.1;omega)
   generalize (fstV a i).length=nn at HOW ⊢
   go_wp2
   go_ret
   exact ⟨_,_,_,rfl,HOW.out,HFI.out.box.bel⟩
end Go.Proofs.YtbakjaliponbbaaGreatDoor
