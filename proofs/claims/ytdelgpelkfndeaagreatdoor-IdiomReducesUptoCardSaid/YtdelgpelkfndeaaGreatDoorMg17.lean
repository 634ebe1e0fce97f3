/- The walks of flat.span, and of flat.Cut at numbers. The walk of flat.those over characters. The walks of hash.New, Put and Firsts. Printed by gen_hfi.py. The .. Conditions: as each theorem says. -/
import Derived.Test.YtdelgpelkfndeaaGreatDoorMgA
import Derived.Test.YtdelgpelkfndeaaGreatDoorMg16
import Derived.Test.YtdelgpelkfndeaaGreatDoorMg04
import Derived.Test.YtdelgpelkfndeaaGreatDoorMg02
import Derived.Test.YtdelgpelkfndeaaGreatDoorMg10
import Derived.Test.YtdelgpelkfndeaaGreatDoorMg12
import Derived.Test.YtdelgpelkfndeaaGreatDoorMg13
import Derived.Test.YtdelgpelkfndeaaGreatDoorMg15
import Derived.Test.YtdelgpelkfndeaaGreatDoorMg09
import Derived.Test.YtdelgpelkfndeaaGreatDoorMg11
import Derived.Test.YtdelgpelkfndeaaGreatDoorMg06
import Derived.Test.YtdelgpelkfndeaaGreatDoorMg07
import Derived.Test.YtdelgpelkfndeaaGreatDoorMg05
set_option maxRecDepth 100000
set_option maxHeartbeats 4000000
namespace Go.Proofs.YtdelgpelkfndeaaGreatDoor
open Go Go.RowKit Go.Proofs Fl
theorem Qbu:(Tryz.prog.info? 3).map (fun i=>(i.zero,i.size,i.bytes))=some (some (.int .i64 0),1,8):=by kernel_rfl
theorem Qm8 (n:Nat) (hn:n<=1000000) (w:World):(Instr.makeSlice 22 (.int .i64 0) (.int .i64 (n:Int))).run Tryz.prog w= .ok (.slice (some ⟨w.heap.size,0,none⟩) 0 n) (w.alloc (.cells (madeCells #[.int .i64 0] n) 3)):=by
 obtain ⟨i,hi,hz,hs,hb⟩:=info_parts Qbu
 have hr:=run_make (P:=Tryz.prog) w 22 3 i (.int .i64 0) Tryz.underlying22 hi hz .i64 .i64 0 (n:Int) (by omega) (by omega) (by rw [hb];omega) (by omega)
 simp only [Int.toNat_natCast,hs,Nat.mul_one] at hr
 exact hr
abbrev Qdj (a d:Nat):List Value:=(List.range d).map fun j => .int .i64 ((a+j:Nat):Int)
theorem Qk4 (a d:Nat):Qdj a d++[.int .i64 ((a+d:Nat):Int)]=Qdj a (d+1):=by unfold Qdj;rw [List.range_succ];simp
def SpR (w:World) (a d:Nat) (e:Ending) (w':World):Prop:=∃ A n c,e= .returned (.slice A n c)/\Own1 w' w.heap.size 3 (.slice A n c) (Qdj a d)/\Below w.heap.size w w'
theorem QpK (a t:Nat) (hat:a<=t) (ht:t<=1000000) (w:World):Calls Tryz.prog 222 #[.int .i64 (a:Int),.int .i64 (t:Int)] w (SpR w a (t - a)):=by
 obtain ⟨d,hd⟩:∃ d,d=t - a:=⟨_,rfl⟩
 rw [<- hd]
 have hta:(t:Int) - (a:Int)=(d:Int):=by omega
 have hmk:=Qm8 d (by omega)
 have HO0:Hid (Own1 (w.alloc (.cells (madeCells #[.int .i64 0] d) 3)) w.heap.size 3 (.slice (some ⟨w.heap.size,0,none⟩) 0 d) (Qdj a 0)):=World.ownsRow_made (base:=w.heap.size) (e:=3) (size:=1) w (madeCells #[.int .i64 0] d) d (Nat.le_refl _) (by unfold maxLen;omega) (by rw [size_madeCells];omega)
 have HD:=hD hd
 have hdb:d<=1000000:=by omega
 clear hd
 go_enter Tryz.func222,Tryz.ntmps222
 go_wp2
 clear hta
 go_loopw [5,6] (fun v iv wr=>∃ (j x:Nat),j<=d/\iv= .int .i64 (x:Int)/\Hid (x=a+j)/\Own1 wr w.heap.size 3 v (Qdj a j)/\Below w.heap.size w wr) (fun _ iv _=>t - (intOf iv).toNat)
 case atStart=>exact ⟨0,a,Nat.zero_le _,rfl,rfl,HO0.out,bel1 _ _⟩
 case round =>
  clear HO0 hmk
  obtain ⟨j,x,hj,rfl,hx,hown,hbl⟩:=hrel
  have HOWN:=hD hown
  have HBL:=hD hbl
  have hBw:w.heap.size<=wr.heap.size:=hbl.size
  obtain ⟨vA,vc,hv⟩:∃ A c,_=Value.slice A (Qdj a j).length c:=hown.reads.len
  subst hv
  clear hown hbl
  by_cases hlt:x < t
  ·have hjd:j < d:=by have:=hx.out;have:=HD.out;omega
   have hxt:(x:Int) < (t:Int):=by omega
   have HL1:Hid (((Qdj a j).length+1)*8<=140737488355328):=by show _<=_;rw [List.length_map,List.length_range];omega
   have HL2:Hid ((Qdj a j).length+1<=140737488355328):=by show _<=_;rw [List.length_map,List.length_range];omega
   have HSN:Hid (Qdj a j++[.int .i64 (x:Int)]=Qdj a (j+1)):=by unfold Hid;rw [hx.out];exact Qk4 a j
   have HX2:Hid (x+1=a+(j+1)):=by unfold Hid;have:=hx.out;omega
   generalize hXX:Qdj a j=XX at *
   clear hXX
   go_wp2_with (at_builtin;refine QaW rfl (.tmp 17) (.tmp 19) 22 3 rfl Tryz.underlying22 (.int .i64 0) 8 Qbu rfl w.heap.size _ XX rfl HOWN.out (.int .i64 (x:Int)) rfl wr.heap.size rfl rfl HL1.out HL2.out hBw ?_;intro v' w1 hv' hb';rw [HSN.out] at hv';have HV:=hD hv';have HB':=hD (hb' w HBL.out);clear hb' hv')
   go_roundw
   case rel=>exact ⟨j+1,x+1,by omega,by go_num,HX2.out,HV.out,HB'.out⟩
   case measure=>simp [intOf];omega
  ·have hge:¬ (x:Int) < (t:Int):=by omega
   obtain rfl:j=d:=by have:=hx.out;have:=HD.out;omega
   generalize (Qdj a j).length=nn at HOWN ⊢
   go_wp2
   go_ret
   exact ⟨vA,nn,vc,rfl,HOWN.out,HBL.out⟩
theorem Que (H:Nat->Prop) (b:Sl) (bn:Int) (s i f c x:Sl) (n a t:Nat) (F:Nat->Nat) (w:World) (hH:∀ b,H b->b < w.heap.size) (hn:n<=1000000) (hat:a<=t) (htn:t<=n) (hv:Keeps H w (NumV (vecW 1 b bn s i f c x) 1 n F)) :
  Calls Tryz.prog 161 #[vecW 1 b bn s i f c x,.int .i64 (a:Int),.int .i64 (t:Int)] w (VecR H w (fun u W=>NumV u (leastF (fun j=>F (a+j)) (t - a):Nat) (t - a) (fun j=>F (a+j)) W)):=by
 obtain ⟨hbn,L,hbt,hFL⟩:=NumV.bits hv.now
 subst hbn
 have hleast:leastF (fun j=>F (a+j)) (t - a)=1:=Qfq _ _ (fun j=>L (a+j)) fun j hj=>hFL _ (by omega)
 rw [hleast]
 have HSM:Hid (∀ j,j < t - a->(fun j=>F (a+j)) j=(fun j=>Qai (L (a+j))) j):=fun j hj=>hFL _ (by omega)
 have HCT:Hid (∀ W,Below w.heap.size w W->Calls Tryz.prog 142 #[.agg #[.slice b.1 b.2.1 b.2.2,.int .i64 (n:Int)],.int .i64 (a:Int),.int .i64 (t:Int)] W fun e w'=>∃ g,e= .returned (.agg #[.slice (some ⟨g,0,none⟩) ((t - a+63) / 64) ((t - a+63) / 64),.int .i64 ((t - a:Nat):Int)])/\RowU w' W.heap.size g ((t - a+63) / 64) (packW (fun i=>L (a+i)) (t - a))/\Below W.heap.size W w'):=by
  intro W hb
  obtain ⟨g,o,cc,rfl,hc⟩:=hbt.below hb
  exact Qrk g o cc n a t L W (by omega) hat htn hc
 have HPK:=hD (fun W=>Qbi b (n:Int) (.slice s.1 s.2.1 s.2.2) (.slice i.1 i.2.1 i.2.2) (.slice f.1 f.2.1 f.2.2) (.slice c.1 c.2.1 c.2.2) (.slice x.1 x.2.1 x.2.2) W)
 have HLN:=hD (fun W (hb:Below w.heap.size w W)=>(hv.step hb).now.len)
 have HS0:=hD (St.new w 1 (.slice b.1 b.2.1 b.2.2) (n:Int) (.slice s.1 s.2.1 s.2.2) (.slice i.1 i.2.1 i.2.2) (.slice f.1 f.2.1 f.2.2) (.slice c.1 c.2.1 c.2.2) (.slice x.1 x.2.1 x.2.2))
 have hm1:min (a:Int) (n:Int)=(a:Int):=by omega
 have hm2:max (0:Int) (a:Int)=(a:Int):=by omega
 have hm3:min (t:Int) (n:Int)=(t:Int):=by omega
 have hm4:max (a:Int) (t:Int)=(t:Int):=by omega
 have HH:=hD hH
 obtain ⟨d,hd⟩:∃ d,d=t - a:=⟨_,rfl⟩
 rw [<- hd] at HCT HSM ⊢
 have hdn:d<=1000000:=by omega
 clear hv hH hbt hFL hleast hat htn hn hd
 go_enter Tryz.func161,Tryz.ntmps161
 go_wp2_with fail
 refine (HLN.out _ HS0.out.bel).mono ?_
 rintro e w1 ⟨rfl,hb⟩
 have HS1:=hD (HS0.out.step hb)
 clear hb
 obtain ⟨h0,h1,h2,h3,h4,h5,h6,h7⟩:=HS1.out.box
 go_wp2_with fail
 refine (HLN.out _ HS1.out.bel).mono ?_
 rintro e w2 ⟨rfl,hb⟩
 have HS2:=hD (HS1.out.step hb)
 clear hb h0 h1 h2 h3 h4 h5 h6 h7
 obtain ⟨h0,h1,h2,h3,h4,h5,h6,h7⟩:=HS2.out.box
 go_wp2_with fail
 refine (HPK.out _).mono ?_
 rintro e w3 ⟨rfl,hb⟩
 have HS3:=hD ((HS2.out.step hb).al (.cells #[.slice b.1 b.2.1 b.2.2,.int .i64 (n:Int)] 33))
 have HV3:=hD (heap_alloc_new w3 (.cells #[.slice b.1 b.2.1 b.2.2,.int .i64 (n:Int)] 33))
 clear hb h0 h1 h2 h3 h4 h5 h6 h7
 go_wp2_with fail
 refine (HCT.out _ HS3.out.bel).mono ?_
 rintro e w5 ⟨gg,rfl,hr5,hb5⟩
 have HS5:=hD (HS3.out.step hb5)
 have HGW:Hid (w.heap.size+2<=gg):=by unfold Hid;have:=hr5.low.1;have:=HS3.out.sz;omega
 have HR5:=hD hr5
 clear hb5 hr5
 go_wp2_with fail
 refine (QbJ _ _ _ _ _).mono ?_
 rintro e w6 ⟨rfl,hb6⟩
 have HS9:=hD (HS5.out.step hb6)
 have HR6:=hD ((HR5.out.lower (Nat.le_refl _)).below hb6)
 have HG6:=hD (HS3.out.sz)
 clear hb6
 have HRE:=hD (Qad HS9.out.res (.int .i64 1) (.slice (some ⟨gg,0,none⟩) ((d+63) / 64) ((d+63) / 64)) (.int .i64 (d:Int)) vnil vnil vnil vnil vnil)
 have HBE:=hD (Qac HS9.out.bel (Nat.le_succ _) (.int .i64 1) (.slice (some ⟨gg,0,none⟩) ((d+63) / 64) ((d+63) / 64)) (.int .i64 (d:Int)) vnil vnil vnil vnil vnil)
 have HKE:Hid (Keeps H (set8 w6 (w.heap.size+1) (.int .i64 1) (.slice (some ⟨gg,0,none⟩) ((d+63) / 64) ((d+63) / 64)) (.int .i64 (d:Int)) vnil vnil vnil vnil vnil) (NumV (vecW 1 (some ⟨gg,0,none⟩,(d+63) / 64,(d+63) / 64) (d:Int) (none,0,0) (none,0,0) (none,0,0) (none,0,0) (none,0,0)) 1 d (fun j=>Qai (L (a+j))))):=by
  have h1:Keeps (fun j=>H j\/j=w.heap.size+1) w6 (fun W=>Reads1 W (.slice (some ⟨gg,0,none⟩) ((d+63) / 64) ((d+63) / 64)) ((List.range ((d+63) / 64)).map fun j => .int .u64 (packW (fun i=>L (a+i)) d j:Nat))) :=
   Own1.keepsH HR6.out (fun j e=>by
    have h2:=HG6.out
    rcases e with e | e
    ·have:=HH.out j e;omega
    ·omega)
  refine ((h1.imp fun W' h=>QbV (by omega) ⟨_,rfl,⟨gg,0,_,rfl,fun j hj=>?_⟩⟩).set8 (.inr rfl) _ _ _ _ _ _ _ _).sub fun _ _ e => .inl e
  exact Qbh h j hj
 clear HR5 HR6
 obtain ⟨⟨h0,h1,h2,h3,h4,h5,h6,h7⟩,hz⟩:=Qag HS9.out.res
 go_wp2
 refine bodyPost_ret (Qbp (fn:=Tryz.f161) (p:=6) rfl _ _ (w.heap.size+1) (by rfl) HRE.out) rfl ?_
 exact ⟨1,(some ⟨gg,0,none⟩,(d+63) / 64,(d+63) / 64),(d:Int),(none,0,0),(none,0,0),(none,0,0),(none,0,0),(none,0,0),rfl,HKE.out.imp fun W h=>h.congr HSM.out,HBE.out⟩
theorem Qtu (k:Int) (hk:k≠1) (H:Nat->Prop) (b:Sl) (bn:Int) (s i f c x:Sl) (n a t:Nat) (R:Value->World->Prop) (w:World) (hat:a<=t) (htn:t<=n) (hn:n<=1000000)
  (hlen:∀ W,Below w.heap.size w W->Calls Tryz.prog 23 #[vecW k b bn s i f c x] W fun e w2=>e= .returned (.int .i64 (n:Nat))/\Below W.heap.size W w2)
  (hpick:∀ W va,Below w.heap.size w W->w.heap.size+2<=W.heap.size->Reads1 W va (Qdj a (t - a))->Calls Tryz.prog 83 #[vecW k b bn s i f c x,va] W (VecR (fun j=>H j\/j=w.heap.size+1) W R)) :
  Calls Tryz.prog 161 #[vecW k b bn s i f c x,.int .i64 (a:Int),.int .i64 (t:Int)] w (VecR H w R):=by
 have HPK:=hD (fun W=>QeY k hk (.slice b.1 b.2.1 b.2.2) bn (.slice s.1 s.2.1 s.2.2) (.slice i.1 i.2.1 i.2.2) (.slice f.1 f.2.1 f.2.2) (.slice c.1 c.2.1 c.2.2) (.slice x.1 x.2.1 x.2.2) W)
 have HLN:=hD (fun W (hb:Below w.heap.size w W)=>hlen W hb)
 have HS0:=hD (St.new w k (.slice b.1 b.2.1 b.2.2) bn (.slice s.1 s.2.1 s.2.2) (.slice i.1 i.2.1 i.2.2) (.slice f.1 f.2.1 f.2.2) (.slice c.1 c.2.1 c.2.2) (.slice x.1 x.2.1 x.2.2))
 have hm1:min (a:Int) (n:Int)=(a:Int):=by omega
 have hm2:max (0:Int) (a:Int)=(a:Int):=by omega
 have hm3:min (t:Int) (n:Int)=(t:Int):=by omega
 have hm4:max (a:Int) (t:Int)=(t:Int):=by omega
 have HSP:=hD (fun W=>QpK a t hat (by omega) W)
 have HPI:=hD hpick
 unfold SpR at HSP
 generalize Qdj a (t - a)=sl at HSP HPI
 clear hat htn hn hpick hlen hk
 go_enter Tryz.func161,Tryz.ntmps161
 go_wp2_with fail
 refine (HLN.out _ HS0.out.bel).mono ?_
 rintro e w1 ⟨rfl,hb⟩
 have HS1:=hD (HS0.out.step hb)
 clear hb
 obtain ⟨h0,h1,h2,h3,h4,h5,h6,h7⟩:=HS1.out.box
 go_wp2_with fail
 refine (HLN.out _ HS1.out.bel).mono ?_
 rintro e w2 ⟨rfl,hb⟩
 have HS2:=hD (HS1.out.step hb)
 clear hb h0 h1 h2 h3 h4 h5 h6 h7
 obtain ⟨h0,h1,h2,h3,h4,h5,h6,h7⟩:=HS2.out.box
 go_wp2_with fail
 refine (HPK.out _).mono ?_
 rintro e w3 ⟨rfl,hb⟩
 have HS3:=hD ((HS2.out.step hb).al (.cells #[vnil,.int .i64 0] 33))
 clear hb h0 h1 h2 h3 h4 h5 h6 h7
 go_wp2_with fail
 obtain ⟨w4,hw4⟩:∃ w4,w4=w3.alloc (.cells #[vnil,.int .i64 0] 33):=⟨_,rfl⟩
 rw [<- hw4] at HS3 ⊢
 clear hw4
 obtain ⟨h0,h1,h2,h3,h4,h5,h6,h7⟩:=HS3.out.box
 go_region_with (first
  | (go_at_call 222;(with_reducible refine (HSP.out _).mono ?_);rintro e w5 ⟨sA,sn,sc,rfl,ho,hb5⟩;have HS5:=hD (HS3.out.dr.step hb5);have HRD:=hD ho.reads;obtain ⟨q0,q1,q2,q3,q4,q5,q6,q7⟩:=HS5.out.box;clear ho hb5)
  | (go_at_call 83;(with_reducible refine (HPI.out w5 _ HS5.out.bel HS5.out.sz HRD.out).mono ?_);rintro e w6 ⟨k5,b5,bn5,s5,i5,f5,c5,x5,rfl,hk5,hb6⟩;have HS9:=hD (HS5.out.step hb6);have HK5:=hD hk5;obtain ⟨⟨r0,r1,r2,r3,r4,r5,r6,r7⟩,rz⟩:=Qag HS9.out.res;clear hk5 hb6))
 all_goals
  have HKF:=hD ((HK5.out.set8 (.inr rfl) (.int .i64 k5) (.slice b5.1 b5.2.1 b5.2.2) (.int .i64 bn5) (.slice s5.1 s5.2.1 s5.2.2) (.slice i5.1 i5.2.1 i5.2.2) (.slice f5.1 f5.2.1 f5.2.2) (.slice c5.1 c5.2.1 c5.2.2) (.slice x5.1 x5.2.1 x5.2.2)).sub (H':=H) fun _ _ e => .inl e)
  have HBE:=hD (Qac HS9.out.bel (Nat.le_succ _) (.int .i64 k5) (.slice b5.1 b5.2.1 b5.2.2) (.int .i64 bn5) (.slice s5.1 s5.2.1 s5.2.2) (.slice i5.1 i5.2.1 i5.2.2) (.slice f5.1 f5.2.1 f5.2.2) (.slice c5.1 c5.2.1 c5.2.2) (.slice x5.1 x5.2.1 x5.2.2))
  have HRE:=hD (Qad HS9.out.res (.int .i64 k5) (.slice b5.1 b5.2.1 b5.2.2) (.int .i64 bn5) (.slice s5.1 s5.2.1 s5.2.2) (.slice i5.1 i5.2.1 i5.2.2) (.slice f5.1 f5.2.1 f5.2.2) (.slice c5.1 c5.2.1 c5.2.2) (.slice x5.1 x5.2.1 x5.2.2))
  go_wp2
  refine bodyPost_ret (Qbp (fn:=Tryz.f161) (p:=6) rfl _ _ (w.heap.size+1) (by rfl) HRE.out) rfl ?_
  exact ⟨k5,b5,bn5,s5,i5,f5,c5,x5,rfl,HKF.out,HBE.out⟩
theorem QrQ (H:Nat->Prop) (p:V8) (n a t:Nat) (F:Nat->Nat) (w:World) (hH:∀ b,H b->b < w.heap.size) (hn:n<=1000000) (hat:a<=t) (htn:t<=n) (hv:Keeps H w (NumV p.v p.k n F)) :
  Calls Tryz.prog 161 #[p.v,.int .i64 (a:Int),.int .i64 (t:Int)] w (VecR H w (fun u W=>NumV u (leastF (fun j=>F (a+j)) (t - a):Nat) (t - a) (fun j=>F (a+j)) W)):=by
 by_cases hk:p.k=1
 ·obtain ⟨k,b,bn,s,i,f,c,x⟩:=p
  dsimp only at hk hv
  subst hk
  exact Que H b bn s i f c x n a t F w hH hn hat htn hv
 ·refine Qtu p.k hk H p.b p.bn p.s p.i p.f p.c p.x n a t _ w hat htn hn (fun W hb=>(hv.step hb).now.len) fun W va hb hz hva=>?_
  exact QpJ (fun j=>H j\/j=w.heap.size+1) p n (t - a) F (fun j=>a+j) va W (fun j e=>by
   rcases e with e | e
   ·have:=hH j e;omega
   ·omega) hn (by omega) ((hv.sub (fun j hj e=>by
    rcases e with e | e
    ·exact e
    ·omega)).step hb) (fun j hj=>by omega) hva
theorem Fill.put2 {w:World}{B g:Nat}{e:TypeId}{f:Nat->Value}{z:Value}{n k:Nat} (h:Fill w B g e f z n k) (hk:k < n) (u:Value):Fill ((w.setCell ⟨g,k,none⟩ u).setCell ⟨g,k,none⟩ (f k)) B g e f z n (k+1):=by
 have h1:=(World.ownsRow.stored h k u).1
 have h2:=(World.ownsRow.stored h1 k (f k)).1
 rw [List.set_set,Qhm _ _ _ _ hk] at h2
 exact h2
theorem Qm9:(Tryz.prog.info? 21).map (fun i=>(i.zero,i.size,i.bytes))=some (some (.int .i32 0),1,4):=by kernel_rfl
theorem Qna (z:Int) (l:List Int) (m:Nat) (K:Nat->Nat) (va vl:Value) (w:World) (hl:l.length<=1000000) (hm:m<=1000000) (hva:Reads1 w va ((List.range m).map fun j => .int .i64 (K j:Int))) (hvl:Reads1 w vl (l.map (Value.int .i32))) (hK:∀ j,j < m->K j < l.length) :
  Calls Tryz.prog 135 #[vl,va,.int .i32 z] w fun e w'=>∃ g,e= .returned (.slice (some ⟨g,0,none⟩) m m)/\Own1 w' w.heap.size 21 (.slice (some ⟨g,0,none⟩) m m) ((List.range m).map fun j => .int .i32 (l.getD (K j) 0))/\Below w.heap.size w w':=by
 obtain ⟨a1,c1,rfl,hc1⟩:=Qbg hva
 obtain ⟨A,n,cc,rfl,hn,hcl⟩:=Qbc hvl
 have HC:=hD hc1
 have HL:=hD hcl
 have HN:=hD hn
 have HK:=hD hK
 have hnb:n<=1000000:=by omega
 have hmk:=run_make_row' (P:=Tryz.prog) 30 21 (.int .i32 0) 4 Tryz.underlying30 Qm9 rfl .i64 .i64 m (by omega) (by omega)
 obtain ⟨ff,hff⟩:∃ ff:Nat->Value,ff=fun j => .int .i32 (l.getD (K j) 0):=⟨_,rfl⟩
 have HFF:Hid (∀ j,ff j= .int .i32 (l.getD (K j) 0)):=fun j=>by rw [hff]
 rw [<- hff]
 have HF0:=hD (Fill.made w w.heap.size (Nat.le_refl _) 21 ff (.int .i32 0) m (by unfold maxLen;omega))
 have HB0:=hD (bel1 w (.cells (madeCells #[.int .i32 0] m) 21))
 clear hff hc1 hcl hn hK hva hvl hl
 go_enter Tryz.func135,Tryz.ntmps135
 go_wp2
 go_loopw [15] (fun j wr=>∃ c:Nat,c<=m/\j= .int .i64 c/\Fill wr w.heap.size w.heap.size 21 ff (.int .i32 0) m c/\Below w.heap.size w wr) (fun j _=>m - (intOf j).toNat)
 case atStart=>exact ⟨0,Nat.zero_le _,rfl,HF0.out,HB0.out⟩
 case round =>
  clear HF0 HB0
  obtain ⟨c,hc,rfl,hfl,hbl⟩:=hrel
  have HFL:=hD hfl
  have HBL:=hD hbl
  clear hfl hbl
  by_cases hlt:c < m
  ·obtain ⟨b,o,rfl,hx⟩:=HC.out c hlt
   have hk:=HK.out c hlt
   obtain ⟨b2,o2,rfl,hy⟩:=HL.out (K c) hk
   have cx:=QaB HBL.out hx
   have cy:=QaB HBL.out hy
   have hFC:ff c= .int .i32 (l.getD (K c) 0):=HFF.out c
   have e1:l.getD (K c) 0=l[K c]:=by simp [List.getD,hk]
   rw [e1] at hFC
   have HP:=hD (HFL.out.put2 hlt (.int .i32 z))
   rw [hFC] at HP
   generalize l[K c]=y at cy HP
   have hkn:K c < n:=by have:=HN.out;omega
   generalize K c=k at cx cy hkn
   have hcz:=HFL.out.cell hlt
   have hfz:=HFL.out.frozen c
   have hlow:=HFL.out.low
   have hd1:b≠w.heap.size:=by have h9:b < w.heap.size:=Qav hx;intro e;omega
   have hd2:b2≠w.heap.size:=by have h9:b2 < w.heap.size:=Qav hy;intro e;omega
   have hk0:(0:Int)<=(k:Int):=by omega
   have hkn2:(k:Int) < (n:Int):=by omega
   have hlt2:(c:Int) < (m:Int):=by omega
   clear hx hy hFC e1 hk
   go_wp2
   go_roundw
   case rel=>exact ⟨c+1,by omega,by go_num,HP.out,(HBL.out.setCell (Nat.le_refl _) _).setCell (Nat.le_refl _) _⟩
   case measure=>simp [intOf];omega
  ·obtain rfl:c=m:=by omega
   have hge:¬ (c:Int) < (c:Int):=by omega
   go_wp2
   go_ret
   exact ⟨w.heap.size,rfl,HFL.out.own,HBL.out⟩
abbrev ngF:Nat->Value:=fun _ => .int .i64 (-1)
structure NewI (B:Nat) (p:V8) (T g S k:Nat) (W:World):Prop where
 vec:BoxP W T p
 slot:W.cell? ⟨T,8,none⟩=some (.slice (some ⟨g,0,none⟩) S S)
 mask:W.cell? ⟨T,9,none⟩=some (.int .u64 ((S - 1:Nat):Int))
 fill:Fill W B g 3 ngF (.int .i64 0) S k
 ne:T≠g
 low:B<=T
theorem NewI.put {B:Nat}{p:V8}{T g S k:Nat}{W:World} (h:NewI B p T g S k W) (hk:k < S):NewI B p T g S (k+1) (W.setCell ⟨g,k,none⟩ (.int .i64 (-1))):=by
 have hb:(W.setCell ⟨g,k,none⟩ (.int .i64 (-1))).heap[T]?=W.heap[T]?:=Below.heap_setCell _ _ _ _ h.ne
 have e:∀ j,(W.setCell ⟨g,k,none⟩ (.int .i64 (-1))).cell? ⟨T,j,none⟩=W.cell? ⟨T,j,none⟩:=fun _=>World.cell?_of_block (w:=W) hb
 obtain ⟨v0,v1,v2,v3,v4,v5,v6,v7⟩:=h.vec
 exact ⟨⟨by rw [e];exact v0,by rw [e];exact v1,by rw [e];exact v2,by rw [e];exact v3,by rw [e];exact v4,by rw [e];exact v5,by rw [e];exact v6,by rw [e];exact v7⟩,by rw [e];exact h.slot,by rw [e];exact h.mask,h.fill.put hk,h.ne,h.low⟩
theorem NewI.tab {B:Nat}{p:V8}{T g S:Nat}{W:World} (h:NewI B p T g S S W):TabM B p T g S (List.replicate S (-1)) W:=by
 refine ⟨h.vec,h.slot,h.mask,?_,by simp,h.ne,h.low⟩
 have h1:=h.fill.own
 have e:(List.range S).map ngF=(List.replicate S (-1:Int)).map (Value.int .i64):=by
  apply List.ext_getElem
  ·simp
  ·intro i h1 h2;simp
 rw [<- e]
 exact h1
theorem QpL (n:Nat) (hn:n<=4194304) (w:World):(Instr.makeSlice 22 (.int .i64 (n:Int)) (.int .i64 (n:Int))).run Tryz.prog w= .ok (.slice (some ⟨w.heap.size,0,none⟩) n n) (w.alloc (.cells (madeCells #[.int .i64 0] n) 3)):=by
 obtain ⟨i,hi,hz,hs,hb⟩:=info_parts Qbu
 have hr:=run_make (P:=Tryz.prog) w 22 3 i (.int .i64 0) Tryz.underlying22 hi hz .i64 .i64 (n:Int) (n:Int) (by omega) (Int.le_refl _) (by rw [hb];omega) (by omega)
 simp only [Int.toNat_natCast,hs,Nat.mul_one] at hr
 exact hr
abbrev tabO (p:V8) (g S:Nat):Obj := .cells #[.int .i64 p.k,.slice p.b.1 p.b.2.1 p.b.2.2,.int .i64 p.bn,.slice p.s.1 p.s.2.1 p.s.2.2,.slice p.i.1 p.i.2.1 p.i.2.2,.slice p.f.1 p.f.2.1 p.f.2.2,.slice p.c.1 p.c.2.1 p.c.2.2,.slice p.x.1 p.x.2.1 p.x.2.2,.slice (some ⟨g,0,none⟩) S S,.int .u64 ((S - 1:Nat):Int)] 160
theorem NewI.step {B:Nat}{p:V8}{T g S k:Nat}{W W':World} (h:NewI B p T g S k W) (hb:Below W.heap.size W W'):NewI B p T g S k W':=by
 have hT:=Qav h.slot
 have e:∀ j,W'.cell? ⟨T,j,none⟩=W.cell? ⟨T,j,none⟩:=fun _=>World.cell?_of_block (w:=W) (hb.block T hT)
 obtain ⟨v0,v1,v2,v3,v4,v5,v6,v7⟩:=h.vec
 exact ⟨⟨by rw [e];exact v0,by rw [e];exact v1,by rw [e];exact v2,by rw [e];exact v3,by rw [e];exact v4,by rw [e];exact v5,by rw [e];exact v6,by rw [e];exact v7⟩,by rw [e];exact h.slot,by rw [e];exact h.mask,h.fill.below hb,h.ne,h.low⟩
theorem Qnb (B:Nat) (p:V8) (S:Nat) (hS:S<=4194304) (W:World) (hB:B<=W.heap.size):NewI B p (W.heap.size+1) W.heap.size S 0 ((W.alloc (.cells (madeCells #[.int .i64 0] S) 3)).alloc (tabO p W.heap.size S)):=by
 have h1:=heap_alloc_new (W.alloc (.cells (madeCells #[.int .i64 0] S) 3)) (tabO p W.heap.size S)
 rw [show (W.alloc (.cells (madeCells #[.int .i64 0] S) 3)).heap.size=W.heap.size+1 by simp] at h1
 have c:=fun j=>cell_of_row _ (W.heap.size+1) j _ _ (0,0) h1
 exact ⟨⟨c 0,c 1,c 2,c 3,c 4,c 5,c 6,c 7⟩,c 8,c 9,(Fill.made W B hB 3 ngF (.int .i64 0) S (by unfold maxLen;omega)).below (bel1 _ _),by omega,by omega⟩
def NewR (p:V8) (n:Nat) (w:World) (e:Ending) (w':World):Prop:=∃ T g S m:Nat,e= .returned (.pointer (some ⟨T,0,none⟩))/\S=2 ^ m/\8<=S/\S<=4194304/\2*n<=S/\TabM w.heap.size p T g S (List.replicate S (-1)) w'/\Below w.heap.size w w'
theorem QrR {p:V8}{n T g S m:Nat}{w w':World} (h1:S=2 ^ m) (h2:8<=S) (h3:S<=4194304) (h4:2*n<=S) (h5:TabM w.heap.size p T g S (List.replicate S (-1)) w') (h6:Below w.heap.size w w'):NewR p n w (.returned (.pointer (some ⟨T,0,none⟩))) w':=⟨T,g,S,m,rfl,h1,h2,h3,h4,h5,h6⟩
theorem QrS (p:V8) (n:Nat) (hn:n<=1000000) (w:World):Calls Tryz.prog 110 #[p.v,.int .i64 (n:Int)] w (NewR p n w):=by
 have HS0:=hD (V1B.new w p)
 go_enter Tryz.func110,Tryz.ntmps110
 obtain ⟨wz,hwz⟩:∃ wz,wz=w.alloc p.o:=⟨_,rfl⟩
 go_wp2
 rw [<- hwz] at HS0
 have HWZ:=hD hwz
 clear hwz
 rw [<- HWZ.out]
 go_loopw [5] (fun sz wr=>∃ S m:Nat,sz= .int .i64 (S:Int)/\Hid (S=2 ^ m)/\8<=S/\m<=22/\V1B w wr p) (fun sz _=>4194304 - (intOf sz).toNat)
 case atStart=>exact ⟨8,3,rfl,(by decide:8=2 ^ 3),Nat.le_refl _,by decide,HS0.out⟩
 case round =>
  obtain ⟨S,m,rfl,hS,h8,hm,hti⟩:=hrel
  have HTI:=hD hti
  have HSM:Hid (S=2 ^ m):=hS
  have hS22:S<=4194304:=by
   have h1:2 ^ m<=2 ^ 22:=Nat.pow_le_pow_right (by decide) hm
   have:=HSM.out
   omega
  clear hti hS HS0 HWZ
  by_cases h1:(S:Int) < 2*(n:Int)
  ·by_cases h2:(S:Int) < 4194304
   ·go_wp2
    go_roundw
    case rel =>
     refine ⟨S*2,m+1,by go_num,?_,by omega,?_,HTI.out⟩
     ·show S*2=2 ^ (m+1)
      rw [Nat.pow_succ,<- HSM.out]
     ·have:m≠22:=fun e=>by
       have h9:=HSM.out
       rw [e] at h9
       omega
      omega
    case measure=>simp [intOf];omega
   ·exact absurd (by omega) h2
  ·have hle:2*n<=S:=by omega
   obtain ⟨c0,c1,c2,c3,c4,c5,c6,c7⟩:=HTI.out.one
   have hwr:IntKind.u64.wrap ((S:Int) - 1)=((S - 1:Nat):Int):=by rw [<- Qb2 (S - 1) (by omega),Int.natCast_sub (by omega)];rfl
   go_wp2_with fail
   have hmk:=QpL S hS22
   obtain ⟨d0,d1,d2,d3,d4,d5,d6,d7⟩:=(HTI.out.step (bel1 wr (.cells (madeCells #[.int .i64 0] S) 3))).one
   have HNI:=hD (Qnb w.heap.size p S hS22 wr HTI.out.bel.size)
   have HBL:Hid (Below w.heap.size w ((wr.alloc (.cells (madeCells #[.int .i64 0] S) 3)).alloc (tabO p wr.heap.size S))):=(HTI.out.bel.alloc HTI.out.bel.size _).alloc (by have:=HTI.out.bel.size;simp;omega) _
   go_cut [6] from 6 (fun x wx=>∃ T g:Nat,x= .pointer (some ⟨T,0,none⟩)/\NewI w.heap.size p T g S 0 wx/\Below w.heap.size w wx)
   case first =>
    go_region
    all_goals
     go_wp2
     go_meet
     exact ⟨_,_,rfl,HNI.out.step (Below.refl _ _).drew,HBL.out.drew⟩
   obtain ⟨T,g,rfl,hni,hbl⟩:=hcut
   have HNJ:=hD hni
   have HBJ:=hD hbl
   have hsl:=hni.slot
   clear hni hbl HNI HBL c0 c1 c2 c3 c4 c5 c6 c7 d0 d1 d2 d3 d4 d5 d6 d7 HTI hwr hmk
   go_wp2
   go_loopw [31] (fun iv wr=>∃ i:Nat,i<=S/\iv= .int .i64 (i:Int)/\NewI w.heap.size p T g S i wr/\Below w.heap.size w wr) (fun iv _=>S - (intOf iv).toNat)
   case atStart=>exact ⟨0,Nat.zero_le _,rfl,HNJ.out,HBJ.out⟩
   case round =>
    obtain ⟨i,hi,rfl,hni,hbl⟩:=hrel
    have HNI:=hD hni
    have HBL:=hD hbl
    clear hsl
    by_cases hlt:i < S
    ·have hlt2:(i:Int) < (S:Int):=by omega
     have hsl:=hni.slot
     have hfz:=hni.fill.frozen i
     have hce:=hni.fill.cell hlt
     have HPU:=hD (hni.put hlt)
     have HBU:=hD (hni.fill.bel hbl i (.int .i64 (-1)))
     clear hni hbl
     go_wp2
     go_roundw
     case rel=>exact ⟨i+1,by omega,by go_num,HPU.out,HBU.out⟩
     case measure=>simp [intOf];omega
    ·have hge:¬ (i:Int) < (S:Int):=by omega
     have hie:i=S:=by omega
     subst hie
     clear hni hbl
     go_wp2
     go_ret
     exact QrR HSM.out h8 hS22 hle HNI.out.tab HBL.out
theorem TabM.ownr {B:Nat}{p:V8}{T g S:Nat}{L:List Int}{W:World} (h:TabM B p T g S L W):W.ownsRow B 3 1 (.slice (some ⟨g,0,none⟩) S S) S (L.map (Value.int .i64)):=by
 have h9:=h.row
 unfold Own1 at h9
 rw [List.length_map,h.len] at h9
 exact h9
theorem TabM.set {B:Nat}{p:V8}{T g S:Nat}{L:List Int}{W:World} (h:TabM B p T g S L W) (x:Nat) (c:Int):TabM B p T g S (L.set x c) (W.setCell ⟨g,x,none⟩ (.int .i64 c)):=by
 have hb:(W.setCell ⟨g,x,none⟩ (.int .i64 c)).heap[T]?=W.heap[T]?:=Below.heap_setCell _ _ _ _ h.ne
 have e:∀ j,(W.setCell ⟨g,x,none⟩ (.int .i64 c)).cell? ⟨T,j,none⟩=W.cell? ⟨T,j,none⟩:=fun _=>World.cell?_of_block (w:=W) hb
 have h1:=(World.ownsRow.stored h.ownr x (.int .i64 c)).1
 rw [<- List.map_set] at h1
 obtain ⟨v0,v1,v2,v3,v4,v5,v6,v7⟩:=h.vec
 refine ⟨⟨by rw [e];exact v0,by rw [e];exact v1,by rw [e];exact v2,by rw [e];exact v3,by rw [e];exact v4,by rw [e];exact v5,by rw [e];exact v6,by rw [e];exact v7⟩,by rw [e];exact h.slot,by rw [e];exact h.mask,?_,by rw [List.length_set,h.len],h.ne,h.low⟩
 unfold Own1
 rw [List.length_map,List.length_set,h.len]
 exact h1
def PutR (B:Nat) (p:V8) (T g S:Nat) (L:List Int) (kn:Nat) (al:Nat->Bool) (c:Nat) (w:World) (e:Ending) (w':World):Prop :=
 ∃ pl,FndP S L kn al pl/\((L.getD pl 0=-1/\e= .returned (.int .i64 (c:Int))/\TabM B p T g S (L.set pl (c:Int)) w')\/∃ j:Nat,L.getD pl 0=(j:Int)/\e= .returned (.int .i64 (j:Int))/\TabM B p T g S L w')/\Lat (fun b=>b=g) w w'/\Below B w w'
theorem QpM {B:Nat}{p:V8}{T g S:Nat}{L:List Int}{kn:Nat}{al:Nat->Bool}{c:Nat}{w w1:World}{pl:Nat} (hf:FndP S L kn al pl) (hX:L.getD pl 0=-1) (hb:Below w.heap.size w w1) (hw:B<=w.heap.size) (ht:TabM B p T g S L w1):PutR B p T g S L kn al c w (.returned (.int .i64 (c:Int))) (w1.setCell ⟨g,pl,none⟩ (.int .i64 (c:Int))) :=
 ⟨pl,hf,.inl ⟨hX,rfl,ht.set pl c⟩,(Lat.below hb).trans (Lat.set (H:=fun b=>b=g) (a:=⟨g,pl,none⟩) rfl _),(hb.mono hw).setCell ht.lt.2.1 _⟩
theorem QpN {B:Nat}{p:V8}{T g S:Nat}{L:List Int}{kn:Nat}{al:Nat->Bool}{c:Nat}{w w1:World}{pl j:Nat} (hf:FndP S L kn al pl) (hX:L.getD pl 0=(j:Int)) (hb:Below w.heap.size w w1) (hw:B<=w.heap.size) (ht:TabM B p T g S L w1):PutR B p T g S L kn al c w (.returned (.int .i64 (j:Int))) w1 :=
 ⟨pl,hf,.inr ⟨j,hX,rfl,ht⟩,Lat.below hb,hb.mono hw⟩
theorem QrT {B:Nat}{p:V8}{T g S m:Nat}{L:List Int} (hS:S=2 ^ m) (hS2:S<=4194304) (w:World) (hB:B<=w.heap.size) (ht:TabM B p T g S L w) (kz:Int) (hkz:InK kz) (c n:Nat) (al:Nat->Bool)
  (hL:∀ x,x < S->L.getD x 0=-1\/∃ j:Nat,j < n/\L.getD x 0=(j:Int)) (hfree:∃ d,d < S/\L.getD ((kz.toNat+d) % S) 0=-1)
  (hKE:∀ W,Below w.heap.size w W->Calls Tryz.prog 170 #[p.v,.int .i64 (c:Int)] W (KeyR kz W))
  (hAL:∀ j,j < n->∀ W,Below w.heap.size w W->Calls Tryz.prog 171 #[p.v,.int .i64 (j:Int),p.v,.int .i64 (c:Int)] W fun e w'=>e= .returned (.bool (al j))/\Below W.heap.size W w') :
  Calls Tryz.prog 111 #[.pointer (some ⟨T,0,none⟩),.int .i64 (c:Int)] w (PutR B p T g S L kz.toNat al c w):=by
 have HFI:=hD (Qkb hS hS2 w ht kz hkz c n al hL hfree hKE hAL)
 have HT:=hD ht
 have HL:=hD hL
 have HSP:Hid (0 < S):=by obtain ⟨d,hd,_⟩:=hfree;show 0 < S;omega
 have hne:=ht.ne
 unfold QpH at HFI
 clear ht hL hfree hKE hAL hS
 go_enter Tryz.func111,Tryz.ntmps111
 obtain ⟨c0,c1,c2,c3,c4,c5,c6,c7⟩:=HT.out.vec
 go_wp2_with fail
 refine HFI.out.mono ?_
 rintro e w1 ⟨pl,rfl,hf,hb⟩
 have HF:=hD hf
 have HBL:=hD hb
 have HT1:=hD (HT.out.step hb)
 have hpl:pl < S:=by
  obtain ⟨d,hd,rfl,_⟩:=hf
  exact Nat.mod_lt _ HSP.out
 have hlt2:(pl:Int) < (S:Int):=by omega
 have csl:=HT1.out.slot
 have cat:=HT1.out.at_ hpl
 have cfz:=World.ownsRow.frozenAt HT1.out.ownr pl
 clear hf hb c0 c1 c2 c3 c4 c5 c6 c7 HFI HT
 rcases HL.out pl hpl with hX | ⟨j,hj,hX⟩
 ·rw [hX] at cat
  have HX:=hD hX
  clear hX
  go_wp2
  go_ret
  exact QpM HF.out HX.out HBL.out hB HT1.out
 ·rw [hX] at cat
  have hj0:¬ (j:Int) < 0:=by omega
  have HX:=hD hX
  clear hX
  go_wp2
  go_ret
  exact QpN HF.out HX.out HBL.out hB HT1.out
theorem V1B.keepB {w W W':World}{p:V8}{B:Nat} (h:V1B w W p) (hb:Below B W W') (hB:w.heap.size < B):V1B w W' p:=by
 have e:∀ j,W'.cell? ⟨w.heap.size,j,none⟩=W.cell? ⟨w.heap.size,j,none⟩:=fun _=>World.cell?_of_block (w:=W) (hb.block _ hB)
 obtain ⟨v0,v1,v2,v3,v4,v5,v6,v7⟩:=h.one
 exact ⟨⟨by rw [e];exact v0,by rw [e];exact v1,by rw [e];exact v2,by rw [e];exact v3,by rw [e];exact v4,by rw [e];exact v5,by rw [e];exact v6,by rw [e];exact v7⟩,h.bel.trans (hb.mono (by omega))⟩
theorem Quf {w W:World}{p:V8} (h:V1B w W p):V1BC w W p/\V1B w W p:=⟨h.one,h⟩
theorem V1B.dr {w W:World}{p:V8} (h:V1B w W p):V1B w W.drew p:=h.step (Below.refl _ W).drew
theorem Qnc {S:Nat}{L:List Int}{el:Nat->RI}{x:RI}{kn pl:Nat} (h:FndP S L kn (fun j=>eqI (el j) x) pl):QpE S L el x kn pl:=by
 obtain ⟨d,h1,h2,h3,h4⟩:=h
 refine ⟨d,h1,h2,fun d' hd'=>?_,?_⟩
 ·obtain ⟨j,e1,e2⟩:=h3 d' hd'
  exact ⟨j,e1,eqI_no.1 e2⟩
 ·rcases h4 with h4 | ⟨j,e1,e2⟩
  ·exact .inl h4
  ·exact .inr ⟨j,e1,eqI_iff.1 e2⟩
abbrev ItsR (H:Nat->Prop) (w:World) (x:Sl) (l:List RI):Prop:=PV H w (.mk [] l 0) nilS x 0
theorem PV.its {H:Nat->Prop}{w:World}{s:List Int}{l:List RI}{fill:Int}{h x:Sl}{f:Int} (g:PV H w (.mk s l fill) h x f):ItsR H w x l:=by
 rw [PV] at g
 unfold ItsR
 rw [PV]
 exact ⟨fun _ _ _ => .inl ⟨none,0,rfl,rfl⟩,rfl,g.2.2.1,g.2.2.2⟩
def FndI (l:List RI) (u:RI) (z:Nat):Prop:=z<=l.length/\(∀ j,j < z->l[j]?≠some u)/\(z < l.length->l[z]?=some u)
structure B4 (w:World) (k:Int) (n:Nat) (c:Int) (x:Sl) (W:World):Prop where
 one:At4 W w.heap.size 0 k n c x
 bel:Below w.heap.size w W
theorem B4.new (w:World) (k:Int) (n:Nat) (c:Int) (x:Sl):B4 w k n c x (w.alloc (itO k n c x)):=⟨QbC w k n c x,bel1 w _⟩
theorem B4.step {w W W':World}{k:Int}{n:Nat}{c:Int}{x:Sl} (g:B4 w k n c x W) (hb:Below W.heap.size W W'):B4 w k n c x W' :=
 ⟨g.one.of fun j=>hb.cell (p:=⟨w.heap.size,j,none⟩) g.one.lt,Qaa g.bel hb⟩
theorem Qnd {H H2:Nat->Prop}{w:World}{l:List RI}{x:Sl} (g:ItsR H w x l) (u:RI) (k:Int) (n:Nat) (c:Int) (y:Sl) (hu:IV H2 w u k n c y) (hl:l.length<=1048576) (hI:∀ i (hi:i < l.length),ItmB l[i] u) (W:World) (hb:Below w.heap.size w W) :
  Calls Tryz.prog 70 #[sv x,itV k n c y] W (fun e w'=>∃ z:Nat,e= .returned (.int .i64 (z:Int))/\FndI l u z/\Below W.heap.size W w'):=by
 obtain ⟨-,-,hx,hit⟩:=g.open_
 obtain ⟨A,m,cc⟩:=x
 dsimp only at hx hit
 have hmb:m<=1048576:=by omega
 have HM:=hD hx
 have HIT:=hD hit
 have HI:=hD hI
 unfold ItmB at HI
 have HU:=hD hu
 have HB:=hD hb
 have HT0:=hD (B4.new W k n c y)
 clear g hx hit hI hu hl hb
 dsimp only [sv]
 go_enter Tryz.func70,Tryz.ntmps70
 go_wp2
 go_loopw [5] (fun iv wr=>∃ i:Nat,i<=m/\iv= .int .i64 (i:Int)/\(∀ j,j < i->l[j]?≠some u)/\B4 W k n c y wr) (fun iv _=>m - (intOf iv).toNat)
 case atStart=>exact ⟨0,Nat.zero_le _,rfl,fun j hj=>absurd hj (Nat.not_lt_zero _),HT0.out⟩
 case round =>
  obtain ⟨i,hi,rfl,hj,ht⟩:=hrel
  have HJ:=hD hj
  have HTR:=hD ht
  clear hj ht
  obtain ⟨b0,b1,b2,b3⟩:=Qfj HTR.out.one
  by_cases hlt:i < m
  ·have h1:i < l.length:=by have:=HM.out;omega
   obtain ⟨b,o,p0,p1,p2,p3,rfl,-,hpv,hce⟩:=HIT.out i h1
   obtain ⟨c0,c1,c2,c3⟩:=hce _ (Lat.below (Qaa HB.out HTR.out.bel))
   dsimp only [sv] at c0 c1 c2 c3
   have HIC:=hD (HI.out i h1 _ _ p0 p1 p2 p3 k n c y _ (hpv.step (Qaa (Qaa HB.out HTR.out.bel) (Qao (Below.refl wr.heap.size wr) 1))) (HU.out.step (Qaa (Qaa HB.out HTR.out.bel) (Qao (Below.refl wr.heap.size wr) 1))))
   have HS:Hid (l[i]?=some l[i]):=List.getElem?_eq_getElem h1
   have hlt2:(i:Int) < (m:Int):=by omega
   have HTS:=hD (HTR.out.step (Qao (Below.refl wr.heap.size wr) 1))
   clear hce hpv
   generalize l[i]=t at HIC HS
   go_wp2
   go_still_tail 5,(by kernel_rfl)
   change wpList _ _ _ _ _ (wr.drewN 1)
   clear b0 b1 b2 b3 c0 c1 c2 c3
   generalize wr.drewN 1=wd at *
   go_wp2_with fail
   refine HIC.out.mono ?_
   rintro e w2 ⟨rfl,hb2⟩
   have HT2:=hD (HTS.out.step hb2)
   clear hb2
   by_cases hxy:t=u
   ·rw [eqI_iff.2 hxy]
    go_wp2
    go_ret
    exact ⟨i,rfl,⟨by have:=HM.out;omega,HJ.out,fun _=>by rw [HS.out,hxy]⟩,HT2.out.bel⟩
   ·rw [eqI_no.2 hxy]
    go_wp2
    go_roundw
    case rel =>
     refine ⟨i+1,by omega,by go_num,fun j hj=>?_,HT2.out⟩
     by_cases e:j=i
     ·rw [e,HS.out];exact fun h=>hxy (Option.some.inj h)
     ·exact HJ.out j (by omega)
    case measure=>simp [intOf];omega
  ·have hlt2:¬ (i:Int) < (m:Int):=by omega
   go_wp2
   go_ret
   exact ⟨m,rfl,⟨by have:=HM.out;omega,fun j hj=>HJ.out j (by omega),fun h=>absurd h (by have:=HM.out;omega)⟩,HTR.out.bel⟩
abbrev noH:Nat->Prop:=fun _=>False
theorem Qfr (w:World):∀ b,noH b->b < w.heap.size:=fun _ e=>e.elim
theorem QrU {b:Nat} (h:TF b):okF b=true:=by unfold okF;rw [Qez h];rfl
theorem QpO {b:Nat} (h:TF b):tidF b=b:=by unfold tidF;rw [Qez h]
theorem QrV {s l:List Nat} (hs:OkSh s l.length) (hl:∀ x∈l,TF x):OkP 40 (rawP (.nums s l)):=by
 rw [rawP,OkP]
 refine ⟨by decide,.inl rfl,⟨s,rfl,by rw [List.length_map];exact hs⟩,Qfc _ fun i hi=>?_⟩
 rw [List.getElem_map,OkI]
 have h:=hl _ (List.getElem_mem (by simpa using hi))
 exact ⟨rfl,fun _=>⟨QrU h,h.lt⟩,fun e=>absurd e (by decide)⟩
theorem QrW {s l:List Nat} (hl:∀ x∈l,TF x):clP (rawP (.nums s l))= .nums s l:=by
 rw [rawP,clP,Qb4,if_pos rfl,List.map_map]
 congr 1
 refine (List.map_congr_left (g:=id) fun x hx=>?_).trans (List.map_id l)
 exact QpO (hl x hx)
theorem Qk5 (l:List Nat):QaH (l.map fun x=>RI.mk 0 x 0 [])=0:=by
 induction l with
 | nil=>rw [List.map_nil,QaH]
 | cons x l ih=>rw [List.map_cons,QaH,ih,cntI,Qa3]
theorem QpP (s l:List Nat):cntP (rawP (.nums s l))=l.length+s.length+1:=by
 rw [rawP,cntP,Qk5]
 simp
theorem Qne {s l:List Nat} (hs:OkSh s l.length) (hl:∀ x∈l,TF x):GoodA 40 (.nums s l):=by rw [GoodA];exact ⟨by decide,hs,hl⟩
theorem Qk6 {s l:List Nat} (hs:OkSh s l.length) (hl:∀ x∈l,TF x) (hc:l.length<=1000) (h x:Sl) (f:Int) (w:World) (hr:PV noH w (rawP (.nums s l)) h x f) :
  Calls Tryz.prog 9 #[plV h x f] w (AaR noH w (.nums s l)):=by
 have h1:=Qfm noH _ h x f w (Qfr w) (QrV hs hl) (by rw [QpP];have:=hs.1;omega) hr
 rwa [QrW hl] at h1
theorem QgZ {n:Int} (h:n.natAbs<=1000):TF (fi n):=QgC ⟨by omega,by omega⟩
theorem sh0:OkSh [] 1:=⟨by decide,by decide,rfl⟩
theorem all1 {x:Nat} (hx:TF x):∀ z∈[x],TF z:=by
 intro z hz
 simp at hz
 rw [hz]
 exact hx
theorem sm_1 (x:Nat) (s:List Nat):SmA 1000000 (.nums s [x]):=by rw [SmA];simp
def ChrT (L:List Value) (u:Value) (W:World):Prop:=∃ c:Sl,u=V8.v (Qep c)/\Reads1 W (sv c) L
theorem QpQ (H:Nat->Prop) (c:Sl) (l:List Int) (m:Nat) (K:Nat->Nat) (va:Value) (w:World) (hH:∀ b,H b->b < w.heap.size) (hl:l.length<=1000000) (hm:m<=1000000) (hv:Reads1 w (sv c) (l.map (Value.int .i32))) (hva:Reads1 w va ((List.range m).map fun j => .int .i64 (K j:Int))) (hK:∀ j,j < m->K j < l.length) :
  Calls Tryz.prog 83 #[vecW 5 (none,0,0) 0 (none,0,0) (none,0,0) (none,0,0) c (none,0,0),va] w (VecR H w (ChrT ((List.range m).map fun j => .int .i32 (l.getD (K j) 0)))):=by
 have HV:=hD hv
 have HVA:=hD hva
 have HK:=hD hK
 have HH:=hD hH
 have HS0:=hD (St.new w 5 (.slice none 0 0) 0 (.slice none 0 0) (.slice none 0 0) (.slice none 0 0) (.slice c.1 c.2.1 c.2.2) (.slice none 0 0))
 have HTX:=hD (fun W (hb:Below w.heap.size w W)=>QoG (.slice none 0 0) 0 (.slice none 0 0) (.slice none 0 0) (.slice none 0 0) (.slice none 0 0) (hv.below hb) hl)
 clear hv hva hK hH
 go_enter Tryz.func83,Tryz.ntmps83
 go_wp2_with fail
 refine (QaY 5 _ _ _ _ _ _ _ _).mono ?_
 rintro e w1 ⟨rfl,hb⟩
 have HS1:=hD (HS0.out.step hb)
 clear hb
 obtain ⟨h0,h1,h2,h3,h4,h5,h6,h7⟩:=HS1.out.box
 go_wp2_with fail
 refine (HTX.out _ HS1.out.bel).mono ?_
 rintro e w2 ⟨u,rfl,ho2,hb2⟩
 have HS2:=hD (HS1.out.step hb2)
 have HT:=hD (Qna 32 l m K va u w2 hl hm (HVA.out.below HS2.out.bel) ho2.reads HK.out)
 clear ho2 hb2 h0 h1 h2 h3 h4 h5 h6 h7
 go_wp2_with fail
 refine HT.out.mono ?_
 rintro e w3 ⟨g,rfl,ho3,hb3⟩
 have HS3:=hD (HS2.out.step hb3)
 have HCH:=hD (Qhn (l:=(List.range m).map fun j=>l.getD (K j) 0) (by rw [List.map_map];exact ho3.reads) (by simpa using hm))
 clear ho3 hb3 HT
 go_wp2_with fail
 refine HCH.out.mono ?_
 rintro e w4 ⟨v,rfl,ho4,hb4⟩
 have HS4:=hD (HS3.out.step hb4)
 have HO4:=hD (ho4.lower HS3.out.sz)
 obtain ⟨a5,n5,rfl⟩:∃ a n,v= .slice a m n:=by obtain ⟨a,n,e⟩:=ho4.reads.len;exact ⟨a,n,by simpa using e⟩
 clear ho4 hb4
 have HRE:=hD (Qad HS4.out.res (.int .i64 5) vnil (.int .i64 0) vnil vnil vnil (.slice a5 m n5) vnil)
 have HBE:=hD (Qac HS4.out.bel (Nat.le_succ _) (.int .i64 5) vnil (.int .i64 0) vnil vnil vnil (.slice a5 m n5) vnil)
 have HKE:Hid (Keeps H (set8 w4 (w.heap.size+1) (.int .i64 5) vnil (.int .i64 0) vnil vnil vnil (.slice a5 m n5) vnil) (ChrT ((List.range m).map fun j => .int .i32 (l.getD (K j) 0)) (vecW 5 (none,0,0) 0 (none,0,0) (none,0,0) (none,0,0) (a5,m,n5) (none,0,0)))):=by
  have h1:Keeps (fun j=>H j\/j=w.heap.size+1) w4 (fun W=>Reads1 W (.slice a5 m n5) ((List.range m).map fun j => .int .i32 (l.getD (K j) 0))):=by
   have h2:=HO4.out
   rw [List.map_map] at h2
   exact Own1.keepsH h2 (fun j e=>by
    rcases e with e | e
    ·have:=HH.out j e;omega
    ·omega)
  exact ((h1.imp fun W h=>(⟨(a5,m,n5),rfl,h⟩:ChrT ((List.range m).map fun j => .int .i32 (l.getD (K j) 0)) (vecW 5 (none,0,0) 0 (none,0,0) (none,0,0) (none,0,0) (a5,m,n5) (none,0,0)) W)).set8 (.inr rfl) _ _ _ _ _ _ _ _).sub fun _ _ e => .inl e
 clear HO4
 obtain ⟨⟨h0,h1,h2,h3,h4,h5,h6,h7⟩,hz⟩:=Qag HS4.out.res
 go_wp2
 refine bodyPost_ret (Qbp rfl _ _ _ rfl HRE.out) rfl ?_
 exact ⟨5,(none,0,0),0,(none,0,0),(none,0,0),(none,0,0),(a5,m,n5),(none,0,0),rfl,HKE.out,HBE.out⟩
theorem QrX (H:Nat->Prop) (c:Sl) (l:List Int) (a t:Nat) (w:World) (hH:∀ b,H b->b < w.heap.size) (hl:l.length<=1000000) (hat:a<=t) (htn:t<=l.length) (hv:Reads1 w (sv c) (l.map (Value.int .i32))) :
  Calls Tryz.prog 161 #[vecW 5 (none,0,0) 0 (none,0,0) (none,0,0) (none,0,0) c (none,0,0),.int .i64 (a:Int),.int .i64 (t:Int)] w (VecR H w (ChrT ((List.range (t - a)).map fun j => .int .i32 (l.getD (a+j) 0)))):=by
 have hn:c.2.1=l.length:=by
  obtain ⟨x,y,e⟩:=Reads1.len hv
  unfold sv at e
  injection e with _ e _
  simpa using e
 refine Qtu 5 (by decide) H (none,0,0) 0 (none,0,0) (none,0,0) (none,0,0) c (none,0,0) l.length a t _ w hat htn hl (fun W hb=>?_) fun W va hb hz hva=>?_
 ·rw [<- hn]
  exact QsZ _ _ _ _ _ _ _ _ _ W
 ·exact QpQ (fun j=>H j\/j=w.heap.size+1) c l (t - a) (fun j=>a+j) va W (fun j e=>by
   rcases e with e | e
   ·have:=hH j e;have:=hb.size;omega
   ·omega) hl (by omega) (hv.below hb) hva fun j hj=>by omega
abbrev NumZ (H:Nat->Prop) (w:World) (p:V8) (l:List Nat):Prop:=NumA H w p l
abbrev TwT (N:Nat) (G:Nat->Nat) (u:Value) (W:World):Prop:=NumV u (leastF G N:Nat) N G W\/(N=0/\u=zbP.v)
theorem QhX {F F':Nat->Nat}{n:Nat} (h:∀ j,j < n->F j=F' j):leastF F n=leastF F' n:=by
 induction n with
 | zero=>rfl
 | succ n ih =>
  unfold leastF
  rw [ih fun j hj=>h j (by omega),h n (by omega)]
theorem Qgj {N:Nat} (G:Nat->Nat){j:Nat} (hj:j < N):((List.range N).map G).getD j 0=G j:=by
 simp [List.getD,hj]
theorem Qnf {H:Nat->Prop}{w:World}{k:Int}{b:Sl}{bn:Int}{s i f c x:Sl}{N:Nat}{G:Nat->Nat} (h:Keeps H w (TwT N G (vecW k b bn s i f c x))):NumZ H w ⟨k,b,bn,s,i,f,c,x⟩ ((List.range N).map G):=by
 by_cases hz:N=0/\vecW k b bn s i f c x=zbP.v
 ·obtain ⟨rfl,h2⟩:=hz
  refine .inr ⟨rfl,?_⟩
  unfold vecW vecV at h2
  simp only [Value.agg.injEq,Array.mk.injEq,List.cons.injEq,Value.int.injEq,Value.slice.injEq,true_and,and_true] at h2
  obtain ⟨rfl,⟨b1,b2,b3⟩,rfl,⟨s1,s2,s3⟩,⟨i1,i2,i3⟩,⟨f1,f2,f3⟩,⟨c1,c2,c3⟩,⟨x1,x2,x3⟩⟩:=h2
  obtain ⟨b4,b5,b6⟩:=b
  obtain ⟨s4,s5,s6⟩:=s
  obtain ⟨i4,i5,i6⟩:=i
  obtain ⟨f4,f5,f6⟩:=f
  obtain ⟨c4,c5,c6⟩:=c
  obtain ⟨x4,x5,x6⟩:=x
  subst b1 b2 b3 s1 s2 s3 i1 i2 i3 f1 f2 f3 c1 c2 c3 x1 x2 x3
  rfl
 ·have h1:Keeps H w (NumV (vecW k b bn s i f c x) (leastF G N:Nat) N G):=h.imp fun W h=>h.resolve_right hz
  obtain ⟨b',bn',s',i',f',c',x',e⟩:=h1.now.shape
  have ek:k=(leastF G N:Nat):=by
   unfold vecW vecV at e
   simp only [Value.agg.injEq,Array.mk.injEq,List.cons.injEq,Value.int.injEq,true_and] at e
   exact e.1
  subst ek
  have hl:((List.range N).map G).length=N:=by simp
  refine .inl ⟨?_,?_⟩
  ·show Keeps H w (NumV (vecW _ b bn s i f c x) _ _ _)
   rw [hl]
   exact h1.imp fun W h=>h.congr fun j hj=>Qgj G hj
  ·show ((leastF G N:Nat):Int)=_
   rw [hl]
   exact congrArg _ (QhX fun j hj=>(Qgj G hj).symm)
structure ClsV (w:World) (p:V8) (z:Int) (n:Nat):Prop where
 cls:∀ W,Below w.heap.size w W->Calls Tryz.prog 44 #[p.v] W fun e w'=>e= .returned (.int .i64 z)/\Below W.heap.size W w'
 len:∀ W,Below w.heap.size w W->Calls Tryz.prog 23 #[p.v] W fun e w'=>e= .returned (.int .i64 (n:Nat))/\Below W.heap.size W w'
theorem ClsV.up {w w':World}{p:V8}{z:Int}{n:Nat} (h:ClsV w p z n) (hb:Below w.heap.size w w'):ClsV w' p z n:=⟨fun W hw=>h.cls W (Qaa hb hw),fun W hw=>h.len W (Qaa hb hw)⟩
theorem Qng {H:Nat->Prop}{w:World}{a:PA}{h:Sl}{p:V8} (g:AV H w a h p):ClsV w p (a.fill:Nat) a.len :=
 ⟨fun W hb=>QaC g W hb,fun W hb=>Qbj g W hb⟩
structure A1 (w W:World) (h:Sl) (p:V8):Prop where
 one:At9 W w.heap.size 0 h p
 res:W.heap[w.heap.size+1]?=some QbN
 bel:Below w.heap.size w W
theorem A1.step {w W W':World}{h:Sl}{p:V8} (g:A1 w W h p) (hb:Below W.heap.size W W'):A1 w W' h p:=⟨g.one.below hb,by rw [hb.block _ (lt_blk g.res)];exact g.res,Qaa g.bel hb⟩
theorem A1.sz {w W:World}{h:Sl}{p:V8} (g:A1 w W h p):w.heap.size+1 < W.heap.size:=lt_blk g.res
theorem A1.new (w:World) (h:Sl) (p:V8):A1 w ((w.alloc (arrO h p)).alloc QbN) h p:=by
 have h1:=heap_alloc_new (w.alloc (arrO h p)) QbN
 have e:(w.alloc (arrO h p)).heap.size=w.heap.size+1:=by simp
 rw [e] at h1
 exact ⟨(QaV w h p).below (bel1 _ _),h1,bel2 w _ _⟩
def CutA (H:Nat->Prop) (w:World) (a:PA) (e:Ending) (w':World):Prop:=∃ u:V8,e= .returned u.v/\AV H w' a nilS u/\Below w.heap.size w w'
theorem QpR {H H1:Nat->Prop}{w:World}{s l:List Nat}{h:Sl}{p:V8} (g:AV H1 w (.nums s l) h p) (hl:l.length<=1000000) (j:Nat) (hj:j < l.length) (z1 z2:Int) (e1:z1=(j:Int)) (e2:z2=((j+1:Nat):Int)) (W:World) (hb:Below w.heap.size w W) (hH:∀ b,H b->b < W.heap.size) (hs:∀ b,b < w.heap.size->H b->H1 b) :
  Calls Tryz.prog 161 #[p.v,.int .i64 z1,.int .i64 z2] W (CutA H W (.nums [] [l.getD j 0])):=by
 subst e1
 subst e2
 rcases g.nums with h | ⟨rfl,_⟩
 ·have hk:Keeps H W (NumV p.v p.k l.length (fun j=>l.getD j 0)):=(h.num.sub hs).step hb
  refine (QrQ H p l.length j (j+1) (fun j=>l.getD j 0) W hH hl (Nat.le_succ j) hj hk).mono ?_
  rintro e w' ⟨k,b,bn,s',i,f,c,x,rfl,hk2,hb2⟩
  rw [show j+1 - j=1 by omega] at hk2
  have h2:=Qnf (hk2.imp fun W h=>(.inl h:TwT 1 (fun j'=>l.getD (j+j') 0) (vecW k b bn s' i f c x) W))
  refine ⟨⟨k,b,bn,s',i,f,c,x⟩,rfl,?_,hb2⟩
  rw [AV]
  exact ⟨QiN _ _,h2⟩
 ·exact absurd hj (Nat.not_lt_zero _)
theorem QpS {H H1:Nat->Prop}{w:World}{s:List Nat}{l:List Int}{h:Sl}{p:V8} (g:AV H1 w (.chars s l) h p) (hl:l.length<=1000000) (j:Nat) (hj:j < l.length) (z1 z2:Int) (e1:z1=(j:Int)) (e2:z2=((j+1:Nat):Int)) (W:World) (hb:Below w.heap.size w W) (hH:∀ b,H b->b < W.heap.size) :
  Calls Tryz.prog 161 #[p.v,.int .i64 z1,.int .i64 z2] W (CutA H W (.chars [] [l.getD j 0])):=by
 subst e1
 subst e2
 obtain ⟨c,rfl,hr⟩:=g.chars
 refine (QrX H c l j (j+1) W hH hl (Nat.le_succ j) hj (Keeps.lat hr (Lat.below hb)).now).mono ?_
 rintro e w' ⟨k,b,bn,s',i,f,c',x,rfl,hk2,hb2⟩
 rw [show j+1 - j=1 by omega] at hk2
 obtain ⟨c2,ec,_⟩:=hk2.now
 have hk3:RdH H w' (sv c2) ([l.getD j 0].map (Value.int .i32)):=hk2.imp fun W h=>by
  obtain ⟨c3,e3,h3⟩:=h
  rw [ec] at e3
  have e4:c2=c3:=by
   unfold V8.v vecW vecV at e3
   simp only [Value.agg.injEq,Array.mk.injEq,List.cons.injEq,Value.slice.injEq,true_and,and_true] at e3
   obtain ⟨a2,n2,q2⟩:=c2
   obtain ⟨a3,n3,q3⟩:=c3
   obtain ⟨i1,i2,i3⟩:=e3
   subst i1 i2 i3
   rfl
  rw [e4]
  exact h3
 refine ⟨Qep c2,by rw [ec],?_,hb2⟩
 rw [AV]
 exact ⟨QiN _ _,c2,rfl,hk3⟩
theorem At3.belowP {w w':World}{b o:Nat}{h x:Sl}{f:Int} (g:At3 w b o h x f) (hb:Below w.heap.size w w'):At3 w' b o h x f:=At3.lat (H:=fun _=>False) g (fun e=>e) (Lat.below hb)
structure P2 (w W:World) (h1 x1:Sl) (f1:Int) (h2 x2:Sl) (f2:Int):Prop where
 one:At3 W w.heap.size 0 h1 x1 f1
 two:At3 W (w.heap.size+1) 0 h2 x2 f2
 bel:Below w.heap.size w W
theorem P2.step {w W W':World}{h1 x1 h2 x2:Sl}{f1 f2:Int} (h:P2 w W h1 x1 f1 h2 x2 f2) (hb:Below W.heap.size W W'):P2 w W' h1 x1 f1 h2 x2 f2:=⟨At3.belowP h.one hb,At3.belowP h.two hb,Qaa h.bel hb⟩
theorem P2.new (w:World) (h1 x1:Sl) (f1:Int) (h2 x2:Sl) (f2:Int):P2 w ((w.alloc (plO h1 x1 f1)).alloc (plO h2 x2 f2)) h1 x1 f1 h2 x2 f2:=by
 have h:=Qbd (w.alloc (plO h1 x1 f1)) h2 x2 f2
 have e:(w.alloc (plO h1 x1 f1)).heap.size=w.heap.size+1:=by simp
 rw [e] at h
 exact ⟨At3.belowP (Qbd w h1 x1 f1) (bel1 _ _),h,bel2 w _ _⟩
theorem P2.more {w W W':World}{h1 x1 h2 x2:Sl}{f1 f2:Int} (g:P2 w W h1 x1 f1 h2 x2 f2) (hb:Below (w.heap.size+2) W W'):P2 w W' h1 x1 f1 h2 x2 f2 :=
 ⟨g.one.of fun j=>hb.cell (p:=⟨w.heap.size,j,none⟩) (by show w.heap.size < _;omega),g.two.of fun j=>hb.cell (p:=⟨w.heap.size+1,j,none⟩) (by show w.heap.size+1 < _;omega),g.bel.trans (hb.mono (by omega))⟩
theorem P2.sz {w W:World}{h1 x1 h2 x2:Sl}{f1 f2:Int} (g:P2 w W h1 x1 f1 h2 x2 f2):w.heap.size+2<=W.heap.size:=At3.lt g.two
theorem p2_s {w W:World}{h1 x1 h2 x2:Sl}{f1 f2:Int} (g:P2 w W h1 x1 f1 h2 x2 f2):((W.cell? ⟨w.heap.size,0,none⟩=some (.slice h1.1 h1.2.1 h1.2.2)/\W.cell? ⟨w.heap.size,1,none⟩=some (.slice x1.1 x1.2.1 x1.2.2)/\W.cell? ⟨w.heap.size,2,none⟩=some (.int .i64 f1)) /\
  (W.cell? ⟨w.heap.size+1,0,none⟩=some (.slice h2.1 h2.2.1 h2.2.2)/\W.cell? ⟨w.heap.size+1,1,none⟩=some (.slice x2.1 x2.2.1 x2.2.2)/\W.cell? ⟨w.heap.size+1,2,none⟩=some (.int .i64 f2)))/\P2 w W h1 x1 f1 h2 x2 f2:=⟨⟨Qax g.one,Qax g.two⟩,g⟩
theorem Qnh {s1 s2:List Nat} (hl:s1.length=s2.length) (h:∀ i (h1:i < s1.length) (h2:i < s2.length),s1[i]=s2[i]):s1=s2:=List.ext_getElem hl h
theorem Qc4 {a b:PA}{h1 x1 h2 x2:Sl} (f1 f2:Int) (w:World) (r1:Reads1 w (sv h1) (a.shape.map fun n:Nat => .int .i64 (n:Int))) (r2:Reads1 w (sv h2) (b.shape.map fun n:Nat => .int .i64 (n:Int))) (m1:x1.2.1=a.len) (m2:x2.2.1=b.len) (sa:a.shape.length<=1048576) (sb:b.shape.length<=1048576) :
  Calls Tryz.prog 72 #[plV h1 x1 f1,plV h2 x2 f2] w (FrR a b h1 h2 w):=by
 obtain ⟨B1,k1,d1,e1,hn1,hc1⟩:=Qbc r1
 obtain ⟨B2,k2,d2,e2,hn2,hc2⟩:=Qbc r2
 obtain ⟨A1,n1,c1⟩:=h1
 obtain ⟨Q2,n2,c2⟩:=h2
 injection e1 with e3 e4 e5
 injection e2 with e6 e7 e8
 dsimp only at e3 e4 e5 e6 e7 e8
 subst e3 e4 e5 e6 e7 e8
 obtain ⟨X1,m,y1⟩:=x1
 obtain ⟨X2,n,y2⟩:=x2
 dsimp only at m1 m2
 have HC1:=hD hc1
 have HC2:=hD hc2
 have HN1:=hD hn1
 have HN2:=hD hn2
 have hb1:n1<=1048576:=by omega
 have hb2:n2<=1048576:=by omega
 obtain ⟨x,hx⟩:∃ x,x=((m:Int)==1):=⟨_,rfl⟩
 obtain ⟨y,hy⟩:∃ y,y=((n:Int)==1):=⟨_,rfl⟩
 have HX:Hid (x=true↔a.len=1):=by unfold Hid;rw [hx];simp;omega
 have HY:Hid (y=true↔b.len=1):=by unfold Hid;rw [hy];simp;omega
 have HS0:=hD (P2.new w (A1,n1,c1) (X1,m,y1) f1 (Q2,n2,c2) (X2,n,y2) f2)
 clear r1 r2 m1 m2 sa sb hc1 hc2 hn1 hn2
 go_enter Tryz.func72,Tryz.ntmps72
 go_wp2_with fail
 obtain ⟨w0,hw0⟩:∃ w0,w0=(w.alloc (plO (A1,n1,c1) (X1,m,y1) f1)).alloc (plO (Q2,n2,c2) (X2,n,y2) f2):=⟨_,rfl⟩
 rw [<- hw0] at HS0
 have HW0:=hD hw0
 clear hw0
 rw [<- HW0.out]
 go_cut [6,7] from 9 (fun u v wx=>u= .bool x/\v= .bool y/\Below w0.heap.size w0 wx)
 case first =>
  obtain ⟨p0,p1,p2⟩:=Qax HS0.out.one
  obtain ⟨q0,q1,q2⟩:=Qax HS0.out.two
  go_quiet (fail)
  go_wp2
  go_meet
  exact ⟨by rw [hx],by rw [hy],QgB (Below.refl _ _) _⟩
 obtain ⟨rfl,rfl,hst⟩:=hcut
 have HST:=hD (HS0.out.step hst)
 clear hst HS0 hx hy
 obtain ⟨p0,p1,p2⟩:=Qax HST.out.one
 obtain ⟨q0,q1,q2⟩:=Qax HST.out.two
 dsimp only at p0 p1 p2 q0 q1 q2
 have hyb:a.shape=a.shape:=rfl
 clear hyb
 cases x with
 | true =>
  have hla:=HX.out.1 rfl
  cases y with
  | true =>
   have hlb:=HY.out.1 rfl
   by_cases hge:n2<=n1
   ·have e:Qaq a b=(0,a.shape):=by unfold Qaq;rw [if_pos ⟨hla,hlb,by rw [<- HN1.out,<- HN2.out];exact hge⟩]
    have hge2:¬ (n1:Int) < (n2:Int):=by omega
    have HE:=hD e
    clear e hla hlb hge
    go_wp2
    go_ret2
    exact QrK (h1:=(A1,n1,c1)) HE.out HST.out.bel
   ·have e:Qaq a b=(0,b.shape):=by unfold Qaq;rw [if_neg (by rw [<- HN1.out,<- HN2.out];exact fun h=>hge h.2.2),if_pos hla]
    have hge2:(n1:Int) < (n2:Int):=by omega
    have HE:=hD e
    clear e hla hlb hge
    go_wp2
    go_ret2
    exact Qtm (h2:=(Q2,n2,c2)) HE.out HST.out.bel
  | false =>
   have hlb:¬ b.len=1:=fun h=>by have:=HY.out.2 h;cases this
   have e:Qaq a b=(0,b.shape):=by unfold Qaq;rw [if_neg (fun h=>hlb h.2.1),if_pos hla]
   have HE:=hD e
   clear e hla hlb
   go_wp2
   go_ret2
   exact Qtm (h2:=(Q2,n2,c2)) HE.out HST.out.bel
 | false =>
  have hla:¬ a.len=1:=fun h=>by have:=HX.out.2 h;cases this
  cases y with
  | true =>
   have hlb:=HY.out.1 rfl
   have e:Qaq a b=(0,a.shape):=by unfold Qaq;rw [if_neg (fun h=>hla h.1),if_neg hla,if_pos hlb]
   have HE:=hD e
   clear e hla hlb
   go_wp2
   go_ret2
   exact QrK (h1:=(A1,n1,c1)) HE.out HST.out.bel
  | false =>
   have hlb:¬ b.len=1:=fun h=>by have:=HY.out.2 h;cases this
   have e0:Qaq a b=if a.shape.length≠b.shape.length then (22,[]) else if a.shape≠b.shape then (23,[]) else (0,a.shape):=by unfold Qaq;rw [if_neg (fun h=>hla h.1),if_neg hla,if_neg hlb]
   by_cases hn:n1=n2
   ·subst hn
    have hne:((n1:Int) != (n1:Int))=false:=by simp
    have HLL:Hid (a.shape.length=b.shape.length):=by unfold Hid;rw [<- HN1.out,<- HN2.out]
    have HE0:Hid (Qaq a b=if a.shape≠b.shape then (23,[]) else (0,a.shape)):=by unfold Hid;rw [e0,if_neg (by simpa using HLL.out)]
    clear e0 hla hlb p0 p1 p2 q0 q1 q2
    obtain ⟨p0,p1,p2⟩:=Qax HST.out.one
    obtain ⟨q0,q1,q2⟩:=Qax HST.out.two
    dsimp only at p0 p1 p2 q0 q1 q2
    go_wp2
    clear p0 p1 p2 q0 q1 q2
    go_loopw [8] (fun j wr=>∃ k:Nat,k<=n1/\j= .int .i64 (k:Int)/\P2 w wr (A1,n1,c1) (X1,m,y1) f1 (Q2,n1,c2) (X2,n,y2) f2/\∀ i (g1:i < a.shape.length) (g2:i < b.shape.length),i < k->a.shape[i]=b.shape[i]) (fun j _=>n1 - (intOf j).toNat)
    case atStart=>exact ⟨0,Nat.zero_le _,rfl,HST.out,fun i _ _ h=>absurd h (Nat.not_lt_zero _)⟩
    case round =>
     obtain ⟨k,hk,rfl,hp,hall⟩:=hrel
     have HP:=hD hp
     have HALL:=hD hall
     clear hp hall
     obtain ⟨p0,p1,p2⟩:=Qax HP.out.one
     obtain ⟨q0,q1,q2⟩:=Qax HP.out.two
     dsimp only at p0 p1 p2 q0 q1 q2
     by_cases hlt:k < n1
     ·have g1:k < a.shape.length:=by have:=HN1.out;omega
      have g2:k < b.shape.length:=by have:=HN2.out;omega
      obtain ⟨u,o,rfl,hce⟩:=HC1.out k g1
      obtain ⟨u',o',rfl,hce'⟩:=HC2.out k g2
      have t1:=QaB HP.out.bel hce
      have t2:=QaB HP.out.bel hce'
      have hlt2:(k:Int) < (n1:Int):=by omega
      by_cases hxy:a.shape[k]=b.shape[k]
      ·have HST2:Hid (∀ i (g1:i < a.shape.length) (g2:i < b.shape.length),i < k+1->a.shape[i]=b.shape[i]):=fun i i1 i2 hi=>by
        by_cases e:i=k
        ·subst e;exact hxy
        ·exact HALL.out i i1 i2 (by omega)
       have hfe:((a.shape[k]:Int) != (b.shape[k]:Int))=false:=by rw [hxy];simp
       generalize a.shape[k]=ea at t1 hfe
       generalize b.shape[k]=eb at t2 hfe
       clear hce hce' hxy
       go_wp2
       go_quiet (fail)
       go_wp2
       go_roundw
       case rel=>exact ⟨k+1,by omega,by go_num,HP.out.step (QgB (Below.refl _ _) _),HST2.out⟩
       case measure=>simp [intOf];omega
      ·have e:Qaq a b=(23,[]):=by rw [HE0.out,if_pos];intro h;exact hxy (by simp [h])
       have HE:=hD e
       have hfe:((a.shape[k]:Int) != (b.shape[k]:Int))=true:=by simpa using fun h=>hxy (by omega)
       generalize a.shape[k]=ea at t1 hfe
       generalize b.shape[k]=eb at t2 hfe
       clear hce hce' hxy e
       go_wp2
       go_quiet (fail)
       go_wp2
       go_ret2
       exact Qtn HE.out (by decide) (HP.out.step (QgB (Below.refl _ _) _)).bel
     ·have e:Qaq a b=(0,a.shape):=by
       rw [HE0.out,if_neg]
       intro h
       exact h (Qnh HLL.out fun i i1 i2=>HALL.out i i1 i2 (by have:=HN1.out;omega))
      have hge:¬ (k:Int) < (n1:Int):=by omega
      have HE:=hD e
      clear e
      go_wp2
      go_ret2
      exact QrK (h1:=(A1,n1,c1)) HE.out HP.out.bel
   ·have e:Qaq a b=(22,[]):=by rw [e0,if_pos (by rw [<- HN1.out,<- HN2.out];simpa using hn)]
    have hne:((n1:Int) != (n2:Int))=true:=by simp;omega
    have HE:=hD e
    clear e e0 hla hlb hn
    go_wp2
    go_ret2
    exact Qtn HE.out (by decide) HST.out.bel
end Go.Proofs.YtdelgpelkfndeaaGreatDoor
