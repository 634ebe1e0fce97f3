/- The walks of flat.span, and of flat.Cut at numbers. The walks of (vec.Vec).Char and (vec.Vec).Box. The walk of flat.those over characters. The walks of .. Conditions: as each theorem says. -/
import Derived.Test.YtbakjaliponbbaaGreatDoorMg29
import Derived.Test.YtbakjaliponbbaaGreatDoorMg09
import Derived.Test.YtbakjaliponbbaaGreatDoorMg07
import Derived.Test.YtbakjaliponbbaaGreatDoorMg17
import Derived.Test.YtbakjaliponbbaaGreatDoorMg28
import Derived.Test.YtbakjaliponbbaaGreatDoorMg13
import Derived.Test.YtbakjaliponbbaaGreatDoorMg11
import Derived.Test.YtbakjaliponbbaaGreatDoorMg27
import Derived.Test.YtbakjaliponbbaaGreatDoorMg19
set_option maxRecDepth 100000
set_option maxHeartbeats 2000000
namespace Go.Proofs.YtbakjaliponbbaaGreatDoor
open Go Go.RowKit Go.Proofs Fl
theorem info_intC:(Tryz.prog.info? 3).map (fun i=>(i.zero,i.size,i.bytes))=some (some (.int .i64 0),1,8):=by kernel_rfl
theorem make_capJ (n:Nat) (hn:n<=1000000) (w:World):(Instr.makeSlice 41 (.int .i64 0) (.int .i64 (n:Int))).run Tryz.prog w= .ok (.slice (some ⟨w.heap.size,0,none⟩) 0 n) (w.alloc (.cells (madeCells #[.int .i64 0] n) 3)):=by
 obtain ⟨i,hi,hz,hs,hb⟩:=info_parts info_intC
 have hr:=run_make (P:=Tryz.prog) w 41 3 i (.int .i64 0) Tryz.underlying41 hi hz .i64 .i64 0 (n:Int) (by omega) (by omega) (by rw [hb];omega) (by omega)
 simp only [Int.toNat_natCast,hs,Nat.mul_one] at hr
 exact hr
abbrev spanL (a d:Nat):List Value:=(List.range d).map fun j => .int .i64 ((a+j:Nat):Int)
theorem spanL_succ (a d:Nat):spanL a d++[.int .i64 ((a+d:Nat):Int)]=spanL a (d+1):=by unfold spanL;rw [List.range_succ];simp
def SpR (w:World) (a d:Nat) (e:Ending) (w':World):Prop:=∃ A n c,e= .returned (.slice A n c)/\Own1 w' w.heap.size 3 (.slice A n c) (spanL a d)/\Below w.heap.size w w'
theorem span_any (a t:Nat) (hat:a<=t) (ht:t<=1000000) (w:World):Calls Tryz.prog 193 #[.int .i64 (a:Int),.int .i64 (t:Int)] w (SpR w a (t - a)):=by
 obtain ⟨d,hd⟩:∃ d,d=t - a:=⟨_,rfl⟩
 rw [<- hd]
 have hta:(t:Int) - (a:Int)=(d:Int):=by omega
 have hmk:=make_capJ d (by omega)
 have HO0:Hid (Own1 (w.alloc (.cells (madeCells #[.int .i64 0] d) 3)) w.heap.size 3 (.slice (some ⟨w.heap.size,0,none⟩) 0 d) (spanL a 0)):=World.ownsRow_made (base:=w.heap.size) (e:=3) (size:=1) w (madeCells #[.int .i64 0] d) d (Nat.le_refl _) (by unfold maxLen;omega) (by rw [size_madeCells];omega)
 have HD:=Lib.hid hd
 have hdb:d<=1000000:=by omega
 clear hd
 go_enter Tryz.func193,Tryz.ntmps193
 go_wp2
 clear hta
 go_loopw [5,6] (fun v iv wr=>∃ (j x:Nat),j<=d/\iv= .int .i64 (x:Int)/\Hid (x=a+j)/\Own1 wr w.heap.size 3 v (spanL a j)/\Below w.heap.size w wr) (fun _ iv _=>t - (intOf iv).toNat)
 case atStart=>exact ⟨0,a,Nat.zero_le _,rfl,rfl,HO0.out,bel1 _ _⟩
 case round =>
  clear HO0 hmk
  obtain ⟨j,x,hj,rfl,hx,hown,hbl⟩:=hrel
  have HOWN:=Lib.hid hown
  have HBL:=Lib.hid hbl
  have hBw:w.heap.size<=wr.heap.size:=hbl.size
  obtain ⟨vA,vc,hv⟩:∃ A c,_=Value.slice A (spanL a j).length c:=hown.reads.len
  subst hv
  clear hown hbl
  by_cases hlt:x < t
  ·have hjd:j < d:=by have:=hx.out;have:=HD.out;omega
   have hxt:(x:Int) < (t:Int):=by omega
   have HL1:Hid (((spanL a j).length+1)*8<=140737488355328):=by show _<=_;rw [List.length_map,List.length_range];omega
   have HL2:Hid ((spanL a j).length+1<=140737488355328):=by show _<=_;rw [List.length_map,List.length_range];omega
   have HSN:Hid (spanL a j++[.int .i64 (x:Int)]=spanL a (j+1)):=by unfold Hid;rw [hx.out];exact spanL_succ a j
   have HX2:Hid (x+1=a+(j+1)):=by unfold Hid;have:=hx.out;omega
   generalize hXX:spanL a j=XX at *
   clear hXX
   go_wp2_with (at_builtin;refine wpList_push1' rfl (.tmp 17) (.tmp 19) 41 3 rfl Tryz.underlying41 (.int .i64 0) 8 info_intC rfl w.heap.size _ XX rfl HOWN.out (.int .i64 (x:Int)) rfl wr.heap.size rfl rfl HL1.out HL2.out hBw ?_;intro v' w1 hv' hb';rw [HSN.out] at hv';have HV:=Lib.hid hv';have HB':=Lib.hid (hb' w HBL.out);clear hb' hv')
   go_roundw
   case rel=>exact ⟨j+1,x+1,by omega,by go_num,HX2.out,HV.out,HB'.out⟩
   case measure=>simp [intOf];omega
  ·have hge:¬ (x:Int) < (t:Int):=by omega
   obtain rfl:j=d:=by have:=hx.out;have:=HD.out;omega
   generalize (spanL a j).length=nn at HOWN ⊢
   go_wp2
   go_ret
   exact ⟨vA,nn,vc,rfl,HOWN.out,HBL.out⟩
theorem cut_1 (H:Nat->Prop) (b:Sl) (bn:Int) (s i f c x:Sl) (n a t:Nat) (F:Nat->Nat) (w:World) (hH:∀ b,H b->b < w.heap.size) (hn:n<=1000000) (hat:a<=t) (htn:t<=n) (hv:Keeps H w (NumV (vecW 1 b bn s i f c x) 1 n F)) :
  Calls Tryz.prog 139 #[vecW 1 b bn s i f c x,.int .i64 (a:Int),.int .i64 (t:Int)] w (VecR H w (fun u W=>NumV u (leastF (fun j=>F (a+j)) (t - a):Nat) (t - a) (fun j=>F (a+j)) W)):=by
 obtain ⟨hbn,L,hbt,hFL⟩:=NumV.bits hv.now
 subst hbn
 have hleast:leastF (fun j=>F (a+j)) (t - a)=1:=leastF_bits _ _ (fun j=>L (a+j)) fun j hj=>hFL _ (by omega)
 rw [hleast]
 have HSM:Hid (∀ j,j < t - a->(fun j=>F (a+j)) j=(fun j=>flagF (L (a+j))) j):=fun j hj=>hFL _ (by omega)
 have HCT:Hid (∀ W,Below w.heap.size w W->Calls Tryz.prog 191 #[.agg #[.slice b.1 b.2.1 b.2.2,.int .i64 (n:Int)],.int .i64 (a:Int),.int .i64 (t:Int)] W fun e w'=>∃ g,e= .returned (.agg #[.slice (some ⟨g,0,none⟩) ((t - a+63) / 64) ((t - a+63) / 64),.int .i64 ((t - a:Nat):Int)])/\RowU w' W.heap.size g ((t - a+63) / 64) (packW (fun i=>L (a+i)) (t - a))/\Below W.heap.size W w'):=by
  intro W hb
  obtain ⟨g,o,cc,rfl,hc⟩:=hbt.below hb
  exact cut_any g o cc n a t L W (by omega) hat htn hc
 have HPK:=Lib.hid (fun W=>packed_yes b (n:Int) (.slice s.1 s.2.1 s.2.2) (.slice i.1 i.2.1 i.2.2) (.slice f.1 f.2.1 f.2.2) (.slice c.1 c.2.1 c.2.2) (.slice x.1 x.2.1 x.2.2) W)
 have HLN:=Lib.hid (fun W (hb:Below w.heap.size w W)=>(hv.step hb).now.len)
 have HS0:=Lib.hid (St.new w 1 (.slice b.1 b.2.1 b.2.2) (n:Int) (.slice s.1 s.2.1 s.2.2) (.slice i.1 i.2.1 i.2.2) (.slice f.1 f.2.1 f.2.2) (.slice c.1 c.2.1 c.2.2) (.slice x.1 x.2.1 x.2.2))
 have hm1:min (a:Int) (n:Int)=(a:Int):=by omega
 have hm2:max (0:Int) (a:Int)=(a:Int):=by omega
 have hm3:min (t:Int) (n:Int)=(t:Int):=by omega
 have hm4:max (a:Int) (t:Int)=(t:Int):=by omega
 have HH:=Lib.hid hH
 obtain ⟨d,hd⟩:∃ d,d=t - a:=⟨_,rfl⟩
 rw [<- hd] at HCT HSM ⊢
 have hdn:d<=1000000:=by omega
 clear hv hH hbt hFL hleast hat htn hn hd
 go_enter Tryz.func139,Tryz.ntmps139
 go_wp2_with fail
 refine (HLN.out _ HS0.out.bel).mono ?_
 rintro e w1 ⟨rfl,hb⟩
 have HS1:=Lib.hid (HS0.out.step hb)
 clear hb
 obtain ⟨h0,h1,h2,h3,h4,h5,h6,h7⟩:=HS1.out.box
 go_wp2_with fail
 refine (HLN.out _ HS1.out.bel).mono ?_
 rintro e w2 ⟨rfl,hb⟩
 have HS2:=Lib.hid (HS1.out.step hb)
 clear hb h0 h1 h2 h3 h4 h5 h6 h7
 obtain ⟨h0,h1,h2,h3,h4,h5,h6,h7⟩:=HS2.out.box
 go_wp2_with fail
 refine (HPK.out _).mono ?_
 rintro e w3 ⟨rfl,hb⟩
 have HS3:=Lib.hid ((HS2.out.step hb).al (.cells #[.slice b.1 b.2.1 b.2.2,.int .i64 (n:Int)] 52))
 have HV3:=Lib.hid (heap_alloc_new w3 (.cells #[.slice b.1 b.2.1 b.2.2,.int .i64 (n:Int)] 52))
 clear hb h0 h1 h2 h3 h4 h5 h6 h7
 go_wp2_with fail
 refine (HCT.out _ HS3.out.bel).mono ?_
 rintro e w5 ⟨gg,rfl,hr5,hb5⟩
 have HS5:=Lib.hid (HS3.out.step hb5)
 have HGW:Hid (w.heap.size+2<=gg):=by unfold Hid;have:=hr5.low.1;have:=HS3.out.sz;omega
 have HR5:=Lib.hid hr5
 clear hb5 hr5
 go_wp2_with fail
 refine (vbits_any _ _ _ _ _).mono ?_
 rintro e w6 ⟨rfl,hb6⟩
 have HS9:=Lib.hid (HS5.out.step hb6)
 have HR6:=Lib.hid ((HR5.out.lower (Nat.le_refl _)).below hb6)
 have HG6:=Lib.hid (HS3.out.sz)
 clear hb6
 have HRE:=Lib.hid (set8_block HS9.out.res (.int .i64 1) (.slice (some ⟨gg,0,none⟩) ((d+63) / 64) ((d+63) / 64)) (.int .i64 (d:Int)) vnil vnil vnil vnil vnil)
 have HBE:=Lib.hid (below_set8 HS9.out.bel (Nat.le_succ _) (.int .i64 1) (.slice (some ⟨gg,0,none⟩) ((d+63) / 64) ((d+63) / 64)) (.int .i64 (d:Int)) vnil vnil vnil vnil vnil)
 have HKE:Hid (Keeps H (set8 w6 (w.heap.size+1) (.int .i64 1) (.slice (some ⟨gg,0,none⟩) ((d+63) / 64) ((d+63) / 64)) (.int .i64 (d:Int)) vnil vnil vnil vnil vnil) (NumV (vecW 1 (some ⟨gg,0,none⟩,(d+63) / 64,(d+63) / 64) (d:Int) (none,0,0) (none,0,0) (none,0,0) (none,0,0) (none,0,0)) 1 d (fun j=>flagF (L (a+j))))):=by
  have h1:Keeps (fun j=>H j\/j=w.heap.size+1) w6 (fun W=>Reads1 W (.slice (some ⟨gg,0,none⟩) ((d+63) / 64) ((d+63) / 64)) ((List.range ((d+63) / 64)).map fun j => .int .u64 (packW (fun i=>L (a+i)) d j:Nat))) :=
   Own1.keepsH HR6.out (fun j e=>by
    have h2:=HG6.out
    rcases e with e | e
    ·have:=HH.out j e;omega
    ·omega)
  refine ((h1.imp fun W' h=>numV_bits (by omega) ⟨_,rfl,⟨gg,0,_,rfl,fun j hj=>?_⟩⟩).set8 (.inr rfl) _ _ _ _ _ _ _ _).sub fun _ _ e => .inl e
  exact reads_cell h j hj
 clear HR5 HR6
 obtain ⟨⟨h0,h1,h2,h3,h4,h5,h6,h7⟩,hz⟩:=boxed_of HS9.out.res
 go_wp2
 refine bodyPost_ret (ret_vec (fn:=Tryz.f139) (p:=6) rfl _ _ (w.heap.size+1) (by rfl) HRE.out) rfl ?_
 exact ⟨1,(some ⟨gg,0,none⟩,(d+63) / 64,(d+63) / 64),(d:Int),(none,0,0),(none,0,0),(none,0,0),(none,0,0),(none,0,0),rfl,HKE.out.imp fun W h=>h.congr HSM.out,HBE.out⟩
theorem cut_n (k:Int) (hk:k≠1) (H:Nat->Prop) (b:Sl) (bn:Int) (s i f c x:Sl) (n a t:Nat) (R:Value->World->Prop) (w:World) (hat:a<=t) (htn:t<=n) (hn:n<=1000000)
  (hlen:∀ W,Below w.heap.size w W->Calls Tryz.prog 48 #[vecW k b bn s i f c x] W fun e w2=>e= .returned (.int .i64 (n:Nat))/\Below W.heap.size W w2)
  (hpick:∀ W va,Below w.heap.size w W->w.heap.size+2<=W.heap.size->Reads1 W va (spanL a (t - a))->Calls Tryz.prog 192 #[vecW k b bn s i f c x,va] W (VecR (fun j=>H j\/j=w.heap.size+1) W R)) :
  Calls Tryz.prog 139 #[vecW k b bn s i f c x,.int .i64 (a:Int),.int .i64 (t:Int)] w (VecR H w R):=by
 have HPK:=Lib.hid (fun W=>packed_no k hk (.slice b.1 b.2.1 b.2.2) bn (.slice s.1 s.2.1 s.2.2) (.slice i.1 i.2.1 i.2.2) (.slice f.1 f.2.1 f.2.2) (.slice c.1 c.2.1 c.2.2) (.slice x.1 x.2.1 x.2.2) W)
 have HLN:=Lib.hid (fun W (hb:Below w.heap.size w W)=>hlen W hb)
 have HS0:=Lib.hid (St.new w k (.slice b.1 b.2.1 b.2.2) bn (.slice s.1 s.2.1 s.2.2) (.slice i.1 i.2.1 i.2.2) (.slice f.1 f.2.1 f.2.2) (.slice c.1 c.2.1 c.2.2) (.slice x.1 x.2.1 x.2.2))
 have hm1:min (a:Int) (n:Int)=(a:Int):=by omega
 have hm2:max (0:Int) (a:Int)=(a:Int):=by omega
 have hm3:min (t:Int) (n:Int)=(t:Int):=by omega
 have hm4:max (a:Int) (t:Int)=(t:Int):=by omega
 have HSP:=Lib.hid (fun W=>span_any a t hat (by omega) W)
 have HPI:=Lib.hid hpick
 unfold SpR at HSP
 generalize spanL a (t - a)=sl at HSP HPI
 clear hat htn hn hpick hlen hk
 go_enter Tryz.func139,Tryz.ntmps139
 go_wp2_with fail
 refine (HLN.out _ HS0.out.bel).mono ?_
 rintro e w1 ⟨rfl,hb⟩
 have HS1:=Lib.hid (HS0.out.step hb)
 clear hb
 obtain ⟨h0,h1,h2,h3,h4,h5,h6,h7⟩:=HS1.out.box
 go_wp2_with fail
 refine (HLN.out _ HS1.out.bel).mono ?_
 rintro e w2 ⟨rfl,hb⟩
 have HS2:=Lib.hid (HS1.out.step hb)
 clear hb h0 h1 h2 h3 h4 h5 h6 h7
 obtain ⟨h0,h1,h2,h3,h4,h5,h6,h7⟩:=HS2.out.box
 go_wp2_with fail
 refine (HPK.out _).mono ?_
 rintro e w3 ⟨rfl,hb⟩
 have HS3:=Lib.hid ((HS2.out.step hb).al (.cells #[vnil,.int .i64 0] 52))
 clear hb h0 h1 h2 h3 h4 h5 h6 h7
 go_wp2_with fail
 obtain ⟨w4,hw4⟩:∃ w4,w4=w3.alloc (.cells #[vnil,.int .i64 0] 52):=⟨_,rfl⟩
 rw [<- hw4] at HS3 ⊢
 clear hw4
 obtain ⟨h0,h1,h2,h3,h4,h5,h6,h7⟩:=HS3.out.box
 go_region_with (first
  | (go_at_call 193;(with_reducible refine (HSP.out _).mono ?_);rintro e w5 ⟨sA,sn,sc,rfl,ho,hb5⟩;have HS5:=Lib.hid (HS3.out.dr.step hb5);have HRD:=Lib.hid ho.reads;obtain ⟨q0,q1,q2,q3,q4,q5,q6,q7⟩:=HS5.out.box;clear ho hb5)
  | (go_at_call 192;(with_reducible refine (HPI.out w5 _ HS5.out.bel HS5.out.sz HRD.out).mono ?_);rintro e w6 ⟨k5,b5,bn5,s5,i5,f5,c5,x5,rfl,hk5,hb6⟩;have HS9:=Lib.hid (HS5.out.step hb6);have HK5:=Lib.hid hk5;obtain ⟨⟨r0,r1,r2,r3,r4,r5,r6,r7⟩,rz⟩:=boxed_of HS9.out.res;clear hk5 hb6))
 all_goals
  have HKF:=Lib.hid ((HK5.out.set8 (.inr rfl) (.int .i64 k5) (.slice b5.1 b5.2.1 b5.2.2) (.int .i64 bn5) (.slice s5.1 s5.2.1 s5.2.2) (.slice i5.1 i5.2.1 i5.2.2) (.slice f5.1 f5.2.1 f5.2.2) (.slice c5.1 c5.2.1 c5.2.2) (.slice x5.1 x5.2.1 x5.2.2)).sub (H':=H) fun _ _ e => .inl e)
  have HBE:=Lib.hid (below_set8 HS9.out.bel (Nat.le_succ _) (.int .i64 k5) (.slice b5.1 b5.2.1 b5.2.2) (.int .i64 bn5) (.slice s5.1 s5.2.1 s5.2.2) (.slice i5.1 i5.2.1 i5.2.2) (.slice f5.1 f5.2.1 f5.2.2) (.slice c5.1 c5.2.1 c5.2.2) (.slice x5.1 x5.2.1 x5.2.2))
  have HRE:=Lib.hid (set8_block HS9.out.res (.int .i64 k5) (.slice b5.1 b5.2.1 b5.2.2) (.int .i64 bn5) (.slice s5.1 s5.2.1 s5.2.2) (.slice i5.1 i5.2.1 i5.2.2) (.slice f5.1 f5.2.1 f5.2.2) (.slice c5.1 c5.2.1 c5.2.2) (.slice x5.1 x5.2.1 x5.2.2))
  go_wp2
  refine bodyPost_ret (ret_vec (fn:=Tryz.f139) (p:=6) rfl _ _ (w.heap.size+1) (by rfl) HRE.out) rfl ?_
  exact ⟨k5,b5,bn5,s5,i5,f5,c5,x5,rfl,HKF.out,HBE.out⟩
theorem cut_num (H:Nat->Prop) (p:V8) (n a t:Nat) (F:Nat->Nat) (w:World) (hH:∀ b,H b->b < w.heap.size) (hn:n<=1000000) (hat:a<=t) (htn:t<=n) (hv:Keeps H w (NumV p.v p.k n F)) :
  Calls Tryz.prog 139 #[p.v,.int .i64 (a:Int),.int .i64 (t:Int)] w (VecR H w (fun u W=>NumV u (leastF (fun j=>F (a+j)) (t - a):Nat) (t - a) (fun j=>F (a+j)) W)):=by
 by_cases hk:p.k=1
 ·obtain ⟨k,b,bn,s,i,f,c,x⟩:=p
  dsimp only at hk hv
  subst hk
  exact cut_1 H b bn s i f c x n a t F w hH hn hat htn hv
 ·refine cut_n p.k hk H p.b p.bn p.s p.i p.f p.c p.x n a t _ w hat htn hn (fun W hb=>(hv.step hb).now.len) fun W va hb hz hva=>?_
  exact pick_num (fun j=>H j\/j=w.heap.size+1) p n (t - a) F (fun j=>a+j) va W (fun j e=>by
   rcases e with e | e
   ·have:=hH j e;omega
   ·omega) hn (by omega) ((hv.sub (fun j hj e=>by
    rcases e with e | e
    ·exact e
    ·omega)).step hb) (fun j hj=>by omega) hva
theorem map_open {α:Type}{g:α->Value}{w:World}{v:Value}{s:List α} (h:Reads1 w v (s.map g)):∃ A n c,v= .slice A n c/\n=s.length /\
  ∀ i (hi:i < s.length),∃ b o,A=some ⟨b,o,none⟩/\w.cell? ⟨b,o+i,none⟩=some (g s[i]):=by
 rcases h with ⟨a,c,rfl,h0⟩ | ⟨b,o,n,c,rfl,hn,hc⟩
 ·have:s=[]:=by simpa using h0
  subst this
  exact ⟨a,0,c,rfl,rfl,fun i hi=>by simp at hi⟩
 ·rw [List.length_map] at hn
  exact ⟨_,n,c,rfl,hn,fun i hi=>⟨b,o,rfl,by rw [hc i (by simpa using hi)];simp⟩⟩
theorem in_any (k:Int) (b:Value) (bn:Int) (s i f c x:Value) (n j:Nat) (hj:j < n) (w:World)
  (hL:∀ W,Below w.heap.size w W->Calls Tryz.prog 48 #[vecV k b bn s i f c x] W fun e w2=>e= .returned (.int .i64 (n:Nat))/\Below W.heap.size W w2) :
  Calls Tryz.prog 187 #[vecV k b bn s i f c x,.int .i64 (j:Nat)] w fun e w'=>e= .returned (.bool true)/\Below w.heap.size w w':=by
 have HL:=Lib.hid (hL _ (bel1 w (.cells #[.int .i64 k,b,.int .i64 bn,s,i,f,c,x] 57)))
 have h0:(0:Int)<=(j:Int):=by omega
 have h1:(j:Int) < (n:Int):=by omega
 clear hL
 go_enter Tryz.func187,Tryz.ntmps187
 go_wp2_with fail
 refine HL.out.mono ?_
 rintro e w1 ⟨rfl,hb1⟩
 have HB:=Lib.hid (bel_both (bel1 w _) hb1)
 clear hb1
 go_wp2
 go_ret
 exact ⟨by simp,HB.out⟩
theorem vchar_any {H:Nat->Prop}{w:World}{s:List Nat}{l:List Int}{h:Sl}{p:V8} (g:AV H w (.chars s l) h p) (j:Nat) (hj:j < l.length) (W:World) (hb:Below w.heap.size w W) :
  Calls Tryz.prog 136 #[p.v,.int .i64 (j:Nat)] W fun e w'=>e= .returned (.int .i32 l[j])/\Below W.heap.size W w':=by
 have hlen:=fun W' (hb':Below W.heap.size W W')=>av_len g W' (bel_both hb hb')
 obtain ⟨⟨A,n,cc⟩,rfl,hr⟩:=g.chars
 obtain ⟨A',n',cc',hv,hn,hc⟩:=map_open (Keeps.lat hr (Lat.below hb)).now
 injection hv with e1 e2 e3
 subst e1;subst e2;subst e3
 dsimp only at hn hc
 obtain ⟨b,o,rfl,hce⟩:=hc j hj
 have HI:=Lib.hid (fun W' (hb':Below W.heap.size W W')=>in_any 5 vnil 0 vnil vnil vnil (.slice (some ⟨b,o,none⟩) n cc) vnil l.length j hj W' (fun W2 hb2=>hlen W2 (bel_both hb' hb2)))
 have hj0:(0:Int)<=(j:Int):=by omega
 have hj1:(j:Int) < (n:Int):=by omega
 have hj2:j < n:=by omega
 have HC:=Lib.hid hce
 generalize l[j]=y at HC
 clear g hlen hr hn hc hj hb hce
 go_enter Tryz.func136,Tryz.ntmps136
 go_wp2_with fail
 refine (HI.out _ (bel1 _ _)).mono ?_
 rintro e w1 ⟨rfl,hb1⟩
 have HB:=Lib.hid (bel_both (bel1 W _) hb1)
 obtain ⟨h0,h1,h2,h3,h4,h5,h6,h7⟩:=(boxed_new W 57 5 vnil 0 vnil vnil vnil (.slice (some ⟨b,o,none⟩) n cc) vnil).below hb1
 have hcell:=cell_up HB.out HC.out
 clear hb1
 go_wp2
 go_ret
 exact ⟨rfl,HB.out⟩
def BoxR (H:Nat->Prop) (w W:World) (a:PA) (e:Ending) (w':World):Prop:=∃ h p,e= .returned (arrV h p)/\AV H w a h p/\Below W.heap.size W w'
theorem vbox_any {H:Nat->Prop}{w:World}{s:List Nat}{l:List PA}{h:Sl}{p:V8} (g:AV H w (.boxes s l) h p) (j:Nat) (hj:j < l.length) (W:World) (hb:Below w.heap.size w W) :
  Calls Tryz.prog 137 #[p.v,.int .i64 (j:Nat)] W (BoxR H w W l[j]):=by
 have hlen:=fun W' (hb':Below W.heap.size W W')=>av_len g W' (bel_both hb hb')
 obtain ⟨A,n,cc,rfl,hn,hk⟩:=g.boxes
 obtain ⟨b,o,h',p',rfl,hnH,hav,hat⟩:=hk j hj
 have HI:=Lib.hid (fun W' (hb':Below W.heap.size W W')=>in_any 6 vnil 0 vnil vnil vnil vnil (.slice (some ⟨b,o,none⟩) n cc) l.length j hj W' (fun W2 hb2=>hlen W2 (bel_both hb' hb2)))
 have hj0:(0:Int)<=(j:Int):=by omega
 have hj1:(j:Int) < (n:Int):=by omega
 have hj2:j < n:=by omega
 have HA:=Lib.hid hav
 have HAT:=Lib.hid (fun w1 (hb1:Below W.heap.size W w1)=>hat w1 (Lat.below (bel_both hb hb1)))
 generalize l[j]=y at HA
 clear g hlen hn hk hj hb hav hat hnH
 go_enter Tryz.func137,Tryz.ntmps137
 go_wp2_with fail
 refine (HI.out _ (bel2 _ _ _)).mono ?_
 rintro e w1 ⟨rfl,hb1⟩
 have HB:=Lib.hid (bel_both (bel2 W _ _) hb1)
 obtain ⟨h0,h1,h2,h3,h4,h5,h6,h7⟩:=((boxed_new W 57 6 vnil 0 vnil vnil vnil vnil (.slice (some ⟨b,o,none⟩) n cc)).below (bel1 _ (.cells zeroL 59))).below hb1
 have hres:w1.heap[W.heap.size+1]?=some (.cells zeroL 59):=by
  have h:=block_up hb1
  simpa using h
 have HR:=Lib.hid hres
 obtain ⟨⟨y0,y1,y2,y3,y4,y5,y6,y7,y8⟩,yz⟩:=zero_block hres
 obtain ⟨c0,c1,c2,c3,c4,c5,c6,c7,c8⟩:=HAT.out _ HB.out
 dsimp only [sv] at c0 c1 c2 c3 c4 c5 c6 c7 c8
 clear hb1 hres
 go_wp2
 refine bodyPost_ret (v:=arrV h' p') ?_ rfl ⟨h',p',rfl,HA.out,below_set9 HB.out (Nat.le_succ _) _ _ _ _ _ _ _ _ _⟩
 exact ret_arr (fn:=Tryz.f137) (p:=4) rfl _ _ (W.heap.size+1) (by rfl) (set9_block HR.out _ _ _ _ _ _ _ _ _)
theorem Fill.put2 {w:World}{B g:Nat}{e:TypeId}{f:Nat->Value}{z:Value}{n k:Nat} (h:Fill w B g e f z n k) (hk:k < n) (u:Value):Fill ((w.setCell ⟨g,k,none⟩ u).setCell ⟨g,k,none⟩ (f k)) B g e f z n (k+1):=by
 have h1:=(World.ownsRow.stored h k u).1
 have h2:=(World.ownsRow.stored h1 k (f k)).1
 rw [List.set_set,fillL_set _ _ _ _ hk] at h2
 exact h2
theorem info_rune:(Tryz.prog.info? 21).map (fun i=>(i.zero,i.size,i.bytes))=some (some (.int .i32 0),1,4):=by kernel_rfl
theorem those_any (z:Int) (l:List Int) (m:Nat) (K:Nat->Nat) (va vl:Value) (w:World) (hl:l.length<=1000000) (hm:m<=1000000) (hva:Reads1 w va ((List.range m).map fun j => .int .i64 (K j:Int))) (hvl:Reads1 w vl (l.map (Value.int .i32))) (hK:∀ j,j < m->K j < l.length) :
  Calls Tryz.prog 230 #[vl,va,.int .i32 z] w fun e w'=>∃ g,e= .returned (.slice (some ⟨g,0,none⟩) m m)/\Own1 w' w.heap.size 21 (.slice (some ⟨g,0,none⟩) m m) ((List.range m).map fun j => .int .i32 (l.getD (K j) 0))/\Below w.heap.size w w':=by
 obtain ⟨a1,c1,rfl,hc1⟩:=reads_at hva
 obtain ⟨A,n,cc,rfl,hn,hcl⟩:=map_open hvl
 have HC:=Lib.hid hc1
 have HL:=Lib.hid hcl
 have HN:=Lib.hid hn
 have HK:=Lib.hid hK
 have hnb:n<=1000000:=by omega
 have hmk:=run_make_row' (P:=Tryz.prog) 27 21 (.int .i32 0) 4 Tryz.underlying27 info_rune rfl .i64 .i64 m (by omega) (by omega)
 obtain ⟨ff,hff⟩:∃ ff:Nat->Value,ff=fun j => .int .i32 (l.getD (K j) 0):=⟨_,rfl⟩
 have HFF:Hid (∀ j,ff j= .int .i32 (l.getD (K j) 0)):=fun j=>by rw [hff]
 rw [<- hff]
 have HF0:=Lib.hid (Fill.made w w.heap.size (Nat.le_refl _) 21 ff (.int .i32 0) m (by unfold maxLen;omega))
 have HB0:=Lib.hid (bel1 w (.cells (madeCells #[.int .i32 0] m) 21))
 clear hff hc1 hcl hn hK hva hvl hl
 go_enter Tryz.func230,Tryz.ntmps230
 go_wp2
 go_loopw [15] (fun j wr=>∃ c:Nat,c<=m/\j= .int .i64 c/\Fill wr w.heap.size w.heap.size 21 ff (.int .i32 0) m c/\Below w.heap.size w wr) (fun j _=>m - (intOf j).toNat)
 case atStart=>exact ⟨0,Nat.zero_le _,rfl,HF0.out,HB0.out⟩
 case round =>
  clear HF0 HB0
  obtain ⟨c,hc,rfl,hfl,hbl⟩:=hrel
  have HFL:=Lib.hid hfl
  have HBL:=Lib.hid hbl
  clear hfl hbl
  by_cases hlt:c < m
  ·obtain ⟨b,o,rfl,hx⟩:=HC.out c hlt
   have hk:=HK.out c hlt
   obtain ⟨b2,o2,rfl,hy⟩:=HL.out (K c) hk
   have cx:=cell_up HBL.out hx
   have cy:=cell_up HBL.out hy
   have hFC:ff c= .int .i32 (l.getD (K c) 0):=HFF.out c
   have e1:l.getD (K c) 0=l[K c]:=by simp [List.getD,hk]
   rw [e1] at hFC
   have HP:=Lib.hid (HFL.out.put2 hlt (.int .i32 z))
   rw [hFC] at HP
   generalize l[K c]=y at cy HP
   have hkn:K c < n:=by have:=HN.out;omega
   generalize K c=k at cx cy hkn
   have hcz:=HFL.out.cell hlt
   have hfz:=HFL.out.frozen c
   have hlow:=HFL.out.low
   have hd1:b≠w.heap.size:=by have h9:b < w.heap.size:=cell_lt hx;intro e;omega
   have hd2:b2≠w.heap.size:=by have h9:b2 < w.heap.size:=cell_lt hy;intro e;omega
   have hk0:(0:Int)<=(k:Int):=by omega
   have hkn2:(k:Int) < (n:Int):=by omega
   have hlt2:(c:Int) < (m:Int):=by omega
   clear hx hy hFC e1 hk
   go_wp2
   go_roundw
   case rel=>exact ⟨c+1,by omega,by go_num,HP.out,(HBL.out.setCell (Nat.le_refl _) _).setCell (Nat.le_refl _) _⟩
   case measure=>simp [intOf];omega
  ·obtain rfl:c=m:=by omega
   have hge:¬ (c:Int) < (c:Int):=by omega
   go_wp2
   go_ret
   exact ⟨w.heap.size,rfl,HFL.out.own,HBL.out⟩
def ChrT (L:List Value) (u:Value) (W:World):Prop:=∃ c:Sl,u=V8.v (charsP c)/\Reads1 W (sv c) L
theorem pick_chr (H:Nat->Prop) (c:Sl) (l:List Int) (m:Nat) (K:Nat->Nat) (va:Value) (w:World) (hH:∀ b,H b->b < w.heap.size) (hl:l.length<=1000000) (hm:m<=1000000) (hv:Reads1 w (sv c) (l.map (Value.int .i32))) (hva:Reads1 w va ((List.range m).map fun j => .int .i64 (K j:Int))) (hK:∀ j,j < m->K j < l.length) :
  Calls Tryz.prog 192 #[vecW 5 (none,0,0) 0 (none,0,0) (none,0,0) (none,0,0) c (none,0,0),va] w (VecR H w (ChrT ((List.range m).map fun j => .int .i32 (l.getD (K j) 0)))):=by
 have HV:=Lib.hid hv
 have HVA:=Lib.hid hva
 have HK:=Lib.hid hK
 have HH:=Lib.hid hH
 have HS0:=Lib.hid (St.new w 5 (.slice none 0 0) 0 (.slice none 0 0) (.slice none 0 0) (.slice none 0 0) (.slice c.1 c.2.1 c.2.2) (.slice none 0 0))
 have HTX:=Lib.hid (fun W (hb:Below w.heap.size w W)=>text_any (.slice none 0 0) 0 (.slice none 0 0) (.slice none 0 0) (.slice none 0 0) (.slice none 0 0) (hv.below hb) hl)
 clear hv hva hK hH
 go_enter Tryz.func192,Tryz.ntmps192
 go_wp2_with fail
 refine (vkind_any 5 _ _ _ _ _ _ _ _).mono ?_
 rintro e w1 ⟨rfl,hb⟩
 have HS1:=Lib.hid (HS0.out.step hb)
 clear hb
 obtain ⟨h0,h1,h2,h3,h4,h5,h6,h7⟩:=HS1.out.box
 go_wp2_with fail
 refine (HTX.out _ HS1.out.bel).mono ?_
 rintro e w2 ⟨u,rfl,ho2,hb2⟩
 have HS2:=Lib.hid (HS1.out.step hb2)
 have HT:=Lib.hid (those_any 32 l m K va u w2 hl hm (HVA.out.below HS2.out.bel) ho2.reads HK.out)
 clear ho2 hb2 h0 h1 h2 h3 h4 h5 h6 h7
 go_wp2_with fail
 refine HT.out.mono ?_
 rintro e w3 ⟨g,rfl,ho3,hb3⟩
 have HS3:=Lib.hid (HS2.out.step hb3)
 have HCH:=Lib.hid (chars_any (l:=(List.range m).map fun j=>l.getD (K j) 0) (by rw [List.map_map];exact ho3.reads) (by simpa using hm))
 clear ho3 hb3 HT
 go_wp2_with fail
 refine HCH.out.mono ?_
 rintro e w4 ⟨v,rfl,ho4,hb4⟩
 have HS4:=Lib.hid (HS3.out.step hb4)
 have HO4:=Lib.hid (ho4.lower HS3.out.sz)
 obtain ⟨a5,n5,rfl⟩:∃ a n,v= .slice a m n:=by obtain ⟨a,n,e⟩:=ho4.reads.len;exact ⟨a,n,by simpa using e⟩
 clear ho4 hb4
 have HRE:=Lib.hid (set8_block HS4.out.res (.int .i64 5) vnil (.int .i64 0) vnil vnil vnil (.slice a5 m n5) vnil)
 have HBE:=Lib.hid (below_set8 HS4.out.bel (Nat.le_succ _) (.int .i64 5) vnil (.int .i64 0) vnil vnil vnil (.slice a5 m n5) vnil)
 have HKE:Hid (Keeps H (set8 w4 (w.heap.size+1) (.int .i64 5) vnil (.int .i64 0) vnil vnil vnil (.slice a5 m n5) vnil) (ChrT ((List.range m).map fun j => .int .i32 (l.getD (K j) 0)) (vecW 5 (none,0,0) 0 (none,0,0) (none,0,0) (none,0,0) (a5,m,n5) (none,0,0)))):=by
  have h1:Keeps (fun j=>H j\/j=w.heap.size+1) w4 (fun W=>Reads1 W (.slice a5 m n5) ((List.range m).map fun j => .int .i32 (l.getD (K j) 0))):=by
   have h2:=HO4.out
   rw [List.map_map] at h2
   exact Own1.keepsH h2 (fun j e=>by
    rcases e with e | e
    ·have:=HH.out j e;omega
    ·omega)
  exact ((h1.imp fun W h=>(⟨(a5,m,n5),rfl,h⟩:ChrT ((List.range m).map fun j => .int .i32 (l.getD (K j) 0)) (vecW 5 (none,0,0) 0 (none,0,0) (none,0,0) (none,0,0) (a5,m,n5) (none,0,0)) W)).set8 (.inr rfl) _ _ _ _ _ _ _ _).sub fun _ _ e => .inl e
 clear HO4
 obtain ⟨⟨h0,h1,h2,h3,h4,h5,h6,h7⟩,hz⟩:=boxed_of HS4.out.res
 go_wp2
 refine bodyPost_ret (ret_vec rfl _ _ _ rfl HRE.out) rfl ?_
 exact ⟨5,(none,0,0),0,(none,0,0),(none,0,0),(none,0,0),(a5,m,n5),(none,0,0),rfl,HKE.out,HBE.out⟩
theorem cut_chr (H:Nat->Prop) (c:Sl) (l:List Int) (a t:Nat) (w:World) (hH:∀ b,H b->b < w.heap.size) (hl:l.length<=1000000) (hat:a<=t) (htn:t<=l.length) (hv:Reads1 w (sv c) (l.map (Value.int .i32))) :
  Calls Tryz.prog 139 #[vecW 5 (none,0,0) 0 (none,0,0) (none,0,0) (none,0,0) c (none,0,0),.int .i64 (a:Int),.int .i64 (t:Int)] w (VecR H w (ChrT ((List.range (t - a)).map fun j => .int .i32 (l.getD (a+j) 0)))):=by
 have hn:c.2.1=l.length:=by
  obtain ⟨x,y,e⟩:=Reads1.len hv
  unfold sv at e
  injection e with _ e _
  simpa using e
 refine cut_n 5 (by decide) H (none,0,0) 0 (none,0,0) (none,0,0) (none,0,0) c (none,0,0) l.length a t _ w hat htn hl (fun W hb=>?_) fun W va hb hz hva=>?_
 ·rw [<- hn]
  exact len_5 _ _ _ _ _ _ _ _ _ W
 ·exact pick_chr (fun j=>H j\/j=w.heap.size+1) c l (t - a) (fun j=>a+j) va W (fun j e=>by
   rcases e with e | e
   ·have:=hH j e;have:=hb.size;omega
   ·omega) hl (by omega) (hv.below hb) hva fun j hj=>by omega
abbrev NumZ (H:Nat->Prop) (w:World) (p:V8) (l:List Nat):Prop:=NumA H w p l
abbrev TwT (N:Nat) (G:Nat->Nat) (u:Value) (W:World):Prop:=NumV u (leastF G N:Nat) N G W\/(N=0/\u=zbP.v)
theorem leastF_congr {F F':Nat->Nat}{n:Nat} (h:∀ j,j < n->F j=F' j):leastF F n=leastF F' n:=by
 induction n with
 | zero=>rfl
 | succ n ih =>
  unfold leastF
  rw [ih fun j hj=>h j (by omega),h n (by omega)]
theorem getD_range {N:Nat} (G:Nat->Nat){j:Nat} (hj:j < N):((List.range N).map G).getD j 0=G j:=by
 simp [List.getD,hj]
theorem numZ_of {H:Nat->Prop}{w:World}{k:Int}{b:Sl}{bn:Int}{s i f c x:Sl}{N:Nat}{G:Nat->Nat} (h:Keeps H w (TwT N G (vecW k b bn s i f c x))):NumZ H w ⟨k,b,bn,s,i,f,c,x⟩ ((List.range N).map G):=by
 by_cases hz:N=0/\vecW k b bn s i f c x=zbP.v
 ·obtain ⟨rfl,h2⟩:=hz
  refine .inr ⟨rfl,?_⟩
  unfold vecW vecV at h2
  simp only [Value.agg.injEq,Array.mk.injEq,List.cons.injEq,Value.int.injEq,Value.slice.injEq,true_and,and_true] at h2
  obtain ⟨rfl,⟨b1,b2,b3⟩,rfl,⟨s1,s2,s3⟩,⟨i1,i2,i3⟩,⟨f1,f2,f3⟩,⟨c1,c2,c3⟩,⟨x1,x2,x3⟩⟩:=h2
  obtain ⟨b4,b5,b6⟩:=b
  obtain ⟨s4,s5,s6⟩:=s
  obtain ⟨i4,i5,i6⟩:=i
  obtain ⟨f4,f5,f6⟩:=f
  obtain ⟨c4,c5,c6⟩:=c
  obtain ⟨x4,x5,x6⟩:=x
  subst b1 b2 b3 s1 s2 s3 i1 i2 i3 f1 f2 f3 c1 c2 c3 x1 x2 x3
  rfl
 ·have h1:Keeps H w (NumV (vecW k b bn s i f c x) (leastF G N:Nat) N G):=h.imp fun W h=>h.resolve_right hz
  obtain ⟨b',bn',s',i',f',c',x',e⟩:=h1.now.shape
  have ek:k=(leastF G N:Nat):=by
   unfold vecW vecV at e
   simp only [Value.agg.injEq,Array.mk.injEq,List.cons.injEq,Value.int.injEq,true_and] at e
   exact e.1
  subst ek
  have hl:((List.range N).map G).length=N:=by simp
  refine .inl ⟨?_,?_⟩
  ·show Keeps H w (NumV (vecW _ b bn s i f c x) _ _ _)
   rw [hl]
   exact h1.imp fun W h=>h.congr fun j hj=>getD_range G hj
  ·show ((leastF G N:Nat):Int)=_
   rw [hl]
   exact congrArg _ (leastF_congr fun j hj=>(getD_range G hj).symm)
structure ClsV (w:World) (p:V8) (z:Int) (n:Nat):Prop where
 cls:∀ W,Below w.heap.size w W->Calls Tryz.prog 135 #[p.v] W fun e w'=>e= .returned (.int .i64 z)/\Below W.heap.size W w'
 len:∀ W,Below w.heap.size w W->Calls Tryz.prog 48 #[p.v] W fun e w'=>e= .returned (.int .i64 (n:Nat))/\Below W.heap.size W w'
theorem ClsV.up {w w':World}{p:V8}{z:Int}{n:Nat} (h:ClsV w p z n) (hb:Below w.heap.size w w'):ClsV w' p z n:=⟨fun W hw=>h.cls W (bel_both hb hw),fun W hw=>h.len W (bel_both hb hw)⟩
structure A1 (w W:World) (h:Sl) (p:V8):Prop where
 one:At9 W w.heap.size 0 h p
 res:W.heap[w.heap.size+1]?=some zeroO
 bel:Below w.heap.size w W
theorem A1.step {w W W':World}{h:Sl}{p:V8} (g:A1 w W h p) (hb:Below W.heap.size W W'):A1 w W' h p:=⟨g.one.below hb,by rw [hb.block _ (lt_blk g.res)];exact g.res,bel_both g.bel hb⟩
theorem A1.sz {w W:World}{h:Sl}{p:V8} (g:A1 w W h p):w.heap.size+1 < W.heap.size:=lt_blk g.res
theorem A1.new (w:World) (h:Sl) (p:V8):A1 w ((w.alloc (arrO h p)).alloc zeroO) h p:=by
 have h1:=heap_alloc_new (w.alloc (arrO h p)) zeroO
 have e:(w.alloc (arrO h p)).heap.size=w.heap.size+1:=by simp
 rw [e] at h1
 exact ⟨(at9_new w h p).below (bel1 _ _),h1,bel2 w _ _⟩
def CutA (H:Nat->Prop) (w:World) (a:PA) (e:Ending) (w':World):Prop:=∃ u:V8,e= .returned u.v/\AV H w' a nilS u/\Below w.heap.size w w'
theorem cutA_num {H H1:Nat->Prop}{w:World}{s l:List Nat}{h:Sl}{p:V8} (g:AV H1 w (.nums s l) h p) (hl:l.length<=1000000) (j:Nat) (hj:j < l.length) (z1 z2:Int) (e1:z1=(j:Int)) (e2:z2=((j+1:Nat):Int)) (W:World) (hb:Below w.heap.size w W) (hH:∀ b,H b->b < W.heap.size) (hs:∀ b,b < w.heap.size->H b->H1 b) :
  Calls Tryz.prog 139 #[p.v,.int .i64 z1,.int .i64 z2] W (CutA H W (.nums [] [l.getD j 0])):=by
 subst e1
 subst e2
 rcases g.nums with h | ⟨rfl,_⟩
 ·have hk:Keeps H W (NumV p.v p.k l.length (fun j=>l.getD j 0)):=(h.num.sub hs).step hb
  refine (cut_num H p l.length j (j+1) (fun j=>l.getD j 0) W hH hl (Nat.le_succ j) hj hk).mono ?_
  rintro e w' ⟨k,b,bn,s',i,f,c,x,rfl,hk2,hb2⟩
  rw [show j+1 - j=1 by omega] at hk2
  have h2:=numZ_of (hk2.imp fun W h=>(.inl h:TwT 1 (fun j'=>l.getD (j+j') 0) (vecW k b bn s' i f c x) W))
  refine ⟨⟨k,b,bn,s',i,f,c,x⟩,rfl,?_,hb2⟩
  rw [AV]
  exact ⟨shV_nil _ _,h2⟩
 ·exact absurd hj (Nat.not_lt_zero _)
theorem cutA_chr {H H1:Nat->Prop}{w:World}{s:List Nat}{l:List Int}{h:Sl}{p:V8} (g:AV H1 w (.chars s l) h p) (hl:l.length<=1000000) (j:Nat) (hj:j < l.length) (z1 z2:Int) (e1:z1=(j:Int)) (e2:z2=((j+1:Nat):Int)) (W:World) (hb:Below w.heap.size w W) (hH:∀ b,H b->b < W.heap.size) :
  Calls Tryz.prog 139 #[p.v,.int .i64 z1,.int .i64 z2] W (CutA H W (.chars [] [l.getD j 0])):=by
 subst e1
 subst e2
 obtain ⟨c,rfl,hr⟩:=g.chars
 refine (cut_chr H c l j (j+1) W hH hl (Nat.le_succ j) hj (Keeps.lat hr (Lat.below hb)).now).mono ?_
 rintro e w' ⟨k,b,bn,s',i,f,c',x,rfl,hk2,hb2⟩
 rw [show j+1 - j=1 by omega] at hk2
 obtain ⟨c2,ec,_⟩:=hk2.now
 have hk3:RdH H w' (sv c2) ([l.getD j 0].map (Value.int .i32)):=hk2.imp fun W h=>by
  obtain ⟨c3,e3,h3⟩:=h
  rw [ec] at e3
  have e4:c2=c3:=by
   unfold V8.v vecW vecV at e3
   simp only [Value.agg.injEq,Array.mk.injEq,List.cons.injEq,Value.slice.injEq,true_and,and_true] at e3
   obtain ⟨a2,n2,q2⟩:=c2
   obtain ⟨a3,n3,q3⟩:=c3
   obtain ⟨i1,i2,i3⟩:=e3
   subst i1 i2 i3
   rfl
  rw [e4]
  exact h3
 refine ⟨charsP c2,by rw [ec],?_,hb2⟩
 rw [AV]
 exact ⟨shV_nil _ _,c2,rfl,hk3⟩
end Go.Proofs.YtbakjaliponbbaaGreatDoor
