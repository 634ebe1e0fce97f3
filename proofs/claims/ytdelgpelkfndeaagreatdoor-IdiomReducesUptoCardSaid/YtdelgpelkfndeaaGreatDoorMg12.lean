/- The walk of scan.line where every step goes in whole numbers: adding and taking away. The walk of relate.table. The walk of arith.floats. The walk of .. Conditions: as each theorem says. -/
import Derived.Test.YtdelgpelkfndeaaGreatDoorMgA
import Derived.Test.YtdelgpelkfndeaaGreatDoorMg02
import Derived.Test.YtdelgpelkfndeaaGreatDoorMg11
import Derived.Test.YtdelgpelkfndeaaGreatDoorMg03
import Derived.Test.YtdelgpelkfndeaaGreatDoorMg07
import Derived.Test.YtdelgpelkfndeaaGreatDoorMg05
import Derived.Deep.RegionHeld3
import Derived.Deep.CutRange
import Derived.Test.YtdelgpelkfndeaaGreatDoorMg06
import Derived.Test.YtdelgpelkfndeaaGreatDoorMg10
import Derived.Test.YtdelgpelkfndeaaGreatDoorMg09
import Derived.Test.YtdelgpelkfndeaaGreatDoorMg08
set_option maxRecDepth 100000
set_option maxHeartbeats 1600000
namespace Go.Proofs.YtdelgpelkfndeaaGreatDoor
open Go Go.RowKit Go.Proofs Fl
theorem Qj8 (a:Nat) (ha:a < 18446744073709551616):(BitVec.ofInt 64 (a:Int)).toNat=a:=by
 rw [BitVec.ofInt_natCast,BitVec.toNat_ofNat];exact Nat.mod_eq_of_lt (by omega)
theorem Qi0 (i:Nat) (h:i<=1000000):bits .and .i64 (i:Int) 1=((i % 2:Nat):Int):=by
 show IntKind.i64.wrap ((BitVec.ofInt 64 (i:Int) &&& BitVec.ofInt 64 ((1:Nat):Int)).toNat:Int)=_
 rw [BitVec.toNat_and,Qj8 i (by omega),Qj8 1 (by omega),Nat.and_one_is_mod,IntKind.wrap_i64]
 omega
def tbR (f:Int) (j:Nat):Bool:=relB f (fi ((j / 2:Nat):Int)) (fi ((j % 2:Nat):Int))
theorem QrJ:∀ T:Fin 16,∀ k:Fin 4,bits BinOp.or IntKind.u8 (T.val:Int) (2 ^ k.val % 256)=((T.val ||| 2 ^ k.val:Nat):Int):=by decide+kernel
theorem QkZ (f:Int) (hf:11<=f) (hf2:f<=16) (w:World) :
  Calls Tryz.prog 64 #[.int .i64 f] w fun e w'=>∃ t:Nat,e= .returned (.int .u8 (t:Int))/\(t < 16/\∀ j,j < 4->t.testBit j=tbR f j)/\w=w':=by
 have HONE:=hD (fun k (hk:k < 4) W=>Qd3 f hf hf2 (fi ((k / 2:Nat):Int)) (fi ((k % 2:Nat):Int)) (QgC ⟨by omega,by omega⟩) (QgC ⟨by omega,by omega⟩) W)
 clear hf hf2
 go_enter Tryz.func64,Tryz.ntmps64
 go_wp2
 go_loop [3,7] (fun t i=>∃ k T:Nat,k<=4/\i= .int .i64 k/\t= .int .u8 (T:Int)/\T < 2 ^ k/\∀ j,j < k->T.testBit j=tbR f j) (fun _ i=>4 - (intOf i).toNat)
 case atStart=>exact ⟨0,0,by omega,rfl,rfl,by decide,fun j hj=>absurd hj (Nat.not_lt_zero _)⟩
 case round =>
  obtain ⟨k,T,hk,rfl,rfl,hT,hb⟩:=hrel
  have HT:=hD hT
  have HB:=hD hb
  clear hT hb
  by_cases hlt:k < 4
  ·have HO:=hD (HONE.out k hlt)
   have e1:bits .and .i64 (k:Int) 1=((k % 2:Nat):Int):=Qi0 k (by omega)
   have hlt2:(k:Int) < 4:=by omega
   have HTB:Hid (tbR f k=relB f (fi ((k / 2:Nat):Int)) (fi ((k % 2:Nat):Int))):=rfl
   generalize relB f (fi ((k / 2:Nat):Int)) (fi ((k % 2:Nat):Int))=tt at *
   go_wp2_with fail
   refine (HO.out _).mono ?_
   rintro e w' ⟨rfl,rfl⟩
   have hk3:2 ^ k<=8:=by
    have:=Nat.pow_le_pow_right (n:=2) (by decide) (show k<=3 by omega)
    exact this
   have HOR:Hid (bits BinOp.or IntKind.u8 (T:Int) (2 ^ k % 256)=((T ||| 2 ^ k:Nat):Int)):=QrJ ⟨T,by have:=HT.out;omega⟩ ⟨k,hlt⟩
   have hp:(2:Nat) ^ (k+1)=2 ^ k*2:=Nat.pow_succ 2 k
   have HP:=hD hp
   clear hp
   cases tt with
   | true =>
    have HN1:Hid (T ||| 2 ^ k < 2 ^ (k+1)):=Nat.or_lt_two_pow (by have:=HT.out;have:=HP.out;omega) (by have:=HP.out;have:=Nat.two_pow_pos k;omega)
    have HN2:Hid (∀ j,j < k+1->(T ||| 2 ^ k).testBit j=tbR f j):=fun j hj=>by
     rw [Nat.testBit_or,Nat.testBit_two_pow]
     by_cases e:j=k
     ·subst e
      rw [HTB.out]
      simp
     ·rw [HB.out j (by omega)]
      have:¬ k=j:=fun h=>e h.symm
      simp [this]
    clear hk3
    go_wp2
    rw [HOR.out]
    go_round
    case rel=>exact ⟨k+1,T ||| 2 ^ k,by omega,by go_num,rfl,HN1.out,HN2.out⟩
    case measure=>simp [intOf];omega
   | false =>
    have HN1:Hid (T < 2 ^ (k+1)):=by have:=HT.out;have:=HP.out;show T < _;omega
    have HN2:Hid (∀ j,j < k+1->T.testBit j=tbR f j):=fun j hj=>by
     by_cases e:j=k
     ·subst e
      rw [HTB.out]
      exact Nat.testBit_lt_two_pow HT.out
     ·exact HB.out j (by omega)
    clear hk3
    go_wp2
    go_round
    case rel=>exact ⟨k+1,T,by omega,by go_num,rfl,HN1.out,HN2.out⟩
    case measure=>simp [intOf];omega
  ·obtain rfl:k=4:=by omega
   go_wp2
   go_ret
   exact ⟨T,rfl,⟨HT.out,HB.out⟩,rfl⟩
structure Ar2 (w:World) (p q:V8) (e:TypeId) (f:Nat->Value) (z:Value) (N c:Nat) (W:World):Prop where
 st:St2 w W p q
 fill:Fill W (w.heap.size+3) (w.heap.size+3) e f z N c
theorem Ar2.step {w W W':World}{p q:V8}{e:TypeId}{f:Nat->Value}{z:Value}{N c:Nat} (h:Ar2 w p q e f z N c W) (hb:Below W.heap.size W W'):Ar2 w p q e f z N c W':=⟨h.st.step hb,h.fill.below hb⟩
theorem Ar2.dr {w W:World}{p q:V8}{e:TypeId}{f:Nat->Value}{z:Value}{N c:Nat} (h:Ar2 w p q e f z N c W):Ar2 w p q e f z N c W.drew:=h.step (Below.refl _ W).drew
theorem Ar2.self {w W:World}{p q:V8}{e:TypeId}{f:Nat->Value}{z:Value}{N c:Nat} (h:Ar2 w p q e f z N c W):Ar2 w p q e f z N c W:=h
theorem Ar2.new (w:World) (p q:V8) (e:TypeId) (f:Nat->Value) (z:Value) (N:Nat) (hN:N<=maxLen):Ar2 w p q e f z N 0 ((((w.alloc p.o).alloc q.o).alloc (.cells zcells 39)).alloc (.cells (madeCells #[z] N) e)):=by
 have h:=Fill.made (((w.alloc p.o).alloc q.o).alloc (.cells zcells 39)) (w.heap.size+3) (by simp) e f z N hN
 have e3:(((w.alloc p.o).alloc q.o).alloc (.cells zcells 39)).heap.size=w.heap.size+3:=by simp
 rw [e3] at h
 exact ⟨(St2.new w p q).al _,h⟩
theorem Ar2.put {w W:World}{p q:V8}{e:TypeId}{f:Nat->Value}{z:Value}{N c:Nat} (h:Ar2 w p q e f z N c W) (hc:c < N):Ar2 w p q e f z N (c+1) (W.setCell ⟨w.heap.size+3,c,none⟩ (f c)) :=
 ⟨h.st.put (Nat.le_refl _) _,h.fill.put hc⟩
theorem QfQ {w W:World}{p q:V8} (h:St2 w W p q):St2C w W p q/\St2 w W p q:=⟨⟨h.one,h.two⟩,h⟩
def Qfn (w:World) (p q:V8) (L:Nat) (ok:Bool) (x y:Value) (W:World):Prop:=x= .int .i64 (L:Nat)/\y= .bool ok/\St2 w W p q
theorem QaZ {w W:World}{p q:V8}{L:Nat}{ok:Bool} (h:St2 w W p q):Qfn w p q L ok (.int .i64 (L:Nat)) (.bool ok) W:=⟨rfl,rfl,h⟩
def BitsAt (W:World) (b:Sl) (n:Nat) (L:Nat->Bool):Prop :=
 ∃ g o c,b=(some ⟨g,o,none⟩,(n+63) / 64,c)/\∀ j,j < (n+63) / 64->W.cell? ⟨g,o+j,none⟩=some (.int .u64 (packW L n j:Nat))
theorem BitsAt.below {W W':World}{b:Sl}{n:Nat}{L:Nat->Bool} (h:BitsAt W b n L) (hb:Below W.heap.size W W'):BitsAt W' b n L:=by
 obtain ⟨g,o,c,e,hc⟩:=h
 exact ⟨g,o,c,e,fun j hj=>by rw [hb.cell (Qav (hc j hj))];exact hc j hj⟩
theorem BitsAt.row {W:World}{B g n:Nat}{L:Nat->Bool} (h:RowU W B g ((n+63) / 64) (packW L n)):BitsAt W (some ⟨g,0,none⟩,(n+63) / 64,(n+63) / 64) n L :=
 ⟨g,0,_,rfl,fun j hj=>by rw [Nat.zero_add];exact h.cell hj⟩
theorem BitsAt.in {W:World}{b:Sl}{n:Nat}{L:Nat->Bool} (h:BitsAt W b n L):BitsIn W (.agg #[.slice b.1 b.2.1 b.2.2,.int .i64 (n:Int)]) n L:=by
 obtain ⟨g,o,c,rfl,hc⟩:=h
 exact ⟨g,o,c,rfl,hc⟩
theorem NumV.bits {b:Sl}{bn:Int}{s i f g x:Sl}{m:Nat}{F:Nat->Nat}{w:World} (h:NumV (vecW 1 b bn s i f g x) 1 m F w):bn=(m:Int)/\∃ L,BitsAt w b m L/\∀ j,j < m->F j=Qai (L j):=by
 obtain ⟨l,s',e,hb,hf⟩:=h.bitsX rfl
 injection e with e
 have e1:=congrArg (fun a:Array Value=>a.getD 1 undef) e
 have e2:=congrArg (fun a:Array Value=>a.getD 2 undef) e
 have e1':Value.slice b.1 b.2.1 b.2.2=s':=e1
 have e2':Value.int .i64 bn= .int .i64 (m:Int):=e2
 injection e2' with _ e3
 refine ⟨e3,l,?_,hf⟩
 obtain ⟨g2,o,c,ev,hc⟩:=hb
 injection ev with ev
 have e4:=congrArg (fun a:Array Value=>a.getD 0 undef) ev
 have e4':s'= .slice (some ⟨g2,o,none⟩) ((m+63) / 64) c:=e4
 rw [<- e1'] at e4'
 injection e4' with h1 h2 h3
 exact ⟨g2,o,c,by rw [<- h1,<- h2,<- h3],hc⟩
def Qi1 (k:Int) (m N:Nat) (F:Nat->Nat) (w:World) (e:Ending) (w':World):Prop :=
 (k=1/\∃ (b:Sl) (L:Nat->Bool),e= .returned (.tuple #[.agg #[.slice b.1 b.2.1 b.2.2,.int .i64 (N:Int)],.bool true])/\BitsAt w' b N L/\(∀ j,j < N->F (ixP m j)=Qai (L j))/\Below w.heap.size w w') \/
 (k≠1/\e= .returned (.tuple #[.agg #[vnil,.int .i64 0],.bool false])/\Below w.heap.size w w')
structure Sb (w W:World) (p:V8):Prop where
 one:BoxP W w.heap.size p
 res:W.heap[w.heap.size+1]?=some (.cells bcells 33)
 bel:Below w.heap.size w W
theorem Sb.step {w W W':World}{p:V8} (h:Sb w W p) (hb:Below W.heap.size W W'):Sb w W' p :=
 ⟨h.one.below hb,by rw [hb.block _ (lt_of_block h.res)];exact h.res,Qaa h.bel hb⟩
theorem Sb.new (w:World) (p:V8):Sb w ((w.alloc p.o).alloc (.cells bcells 33)) p:=by
 have h2:=heap_alloc_new (w.alloc p.o) (.cells bcells 33)
 have e1:(w.alloc p.o).heap.size=w.heap.size+1:=by simp
 rw [e1] at h2
 exact ⟨(Qb3 w p).below (bel1 _ _),h2,bel2 w _ _⟩
theorem Sb.sz {w W:World}{p:V8} (h:Sb w W p):w.heap.size+1 < W.heap.size:=lt_of_block h.res
theorem QmS (k:Int) (hk:k≠1) (b:Sl) (bn:Int) (s i f g x:Sl) (m N:Nat) (F:Nat->Nat) (w:World) :
  Calls Tryz.prog 62 #[vecW k b bn s i f g x,.int .i64 (N:Int)] w (Qi1 k m N F w):=by
 have HP:=hD (fun W=>QeY k hk (.slice b.1 b.2.1 b.2.2) bn (.slice s.1 s.2.1 s.2.2) (.slice i.1 i.2.1 i.2.2) (.slice f.1 f.2.1 f.2.2) (.slice g.1 g.2.1 g.2.2) (.slice x.1 x.2.1 x.2.2) W)
 have HS0:=hD (Sb.new w ⟨k,b,bn,s,i,f,g,x⟩)
 have HK:=hD hk
 clear hk
 go_enter Tryz.func62,Tryz.ntmps62
 obtain ⟨h0,h1,h2,h3,h4,h5,h6,h7⟩:=HS0.out.one
 go_wp2_with fail
 refine (HP.out _).mono ?_
 rintro e w1 ⟨rfl,hb1⟩
 have HS1:=hD (HS0.out.step hb1)
 have z1:w.heap.size+1 < w1.heap.size:=HS1.out.sz
 have HKE:=hD (Qa2 HS1.out.res vnil (.int .i64 0))
 clear hb1 h0 h1 h2 h3 h4 h5 h6 h7
 obtain ⟨hk0,hk1,hkf⟩:=Qaj HS1.out.res
 go_wp2
 refine bodyPost_ret (v := .tuple #[.agg #[vnil,.int .i64 0],.bool false]) ?_ rfl (.inr ⟨HK.out,rfl,Qaa (Qa1 HS1.out.bel (Nat.le_succ _) _ _) (bel1 _ _)⟩)
 exact QbI (fn:=Tryz.f62) (p:=4) (u:=5) rfl _ _ (w.heap.size+1) (by rfl) ((Below.heap_alloc _ _ _ (lt_of_block HKE.out)).trans HKE.out)
theorem Qi2 (b:Sl) (bn:Int) (s i f g x:Sl) (m N:Nat) (F:Nat->Nat) (w:World) (hmN:m=N) (hN:NumV (vecW 1 b bn s i f g x) 1 m F w) :
  Calls Tryz.prog 62 #[vecW 1 b bn s i f g x,.int .i64 (N:Int)] w (Qi1 1 m N F w):=by
 subst hmN
 obtain ⟨rfl,L,hL,hF⟩:=hN.bits
 have HLW:=hD hL
 have HF:Hid (∀ j,j < m->F (ixP m j)=Qai (L j)):=fun j hj=>by
  have e:ixP m j=j:=by unfold ixP;split <;> omega
  rw [e];exact hF j hj
 have HP:=hD (fun W=>Qbi b (m:Int) (.slice s.1 s.2.1 s.2.2) (.slice i.1 i.2.1 i.2.2) (.slice f.1 f.2.1 f.2.2) (.slice g.1 g.2.1 g.2.2) (.slice x.1 x.2.1 x.2.2) W)
 have HBL:=hD (fun W=>QeB (.slice b.1 b.2.1 b.2.2) (m:Int) W)
 have HS0:=hD (Sb.new w ⟨1,b,(m:Int),s,i,f,g,x⟩)
 clear hL hF hN
 have hcase:(((m:Int)==1)=true/\((m:Int) != 1)=false)\/((m:Int)==1)=false:=by
  by_cases h1:m=1
  ·left;subst h1;exact ⟨rfl,rfl⟩
  ·right;simp;omega
 rcases hcase with ⟨e1,e2⟩ | e1
 all_goals
  go_enter Tryz.func62,Tryz.ntmps62
  obtain ⟨h0,h1,h2,h3,h4,h5,h6,h7⟩:=HS0.out.one
  go_wp2_with fail
  refine (HP.out _).mono ?_
  rintro e w1 ⟨rfl,hb1⟩
  have HS1:=hD (HS0.out.step hb1)
  have z1:w.heap.size+1 < w1.heap.size:=HS1.out.sz
  clear hb1 h0 h1 h2 h3 h4 h5 h6 h7
  have HS2:=hD (HS1.out.step (bel1 w1 (.cells #[.slice b.1 b.2.1 b.2.2,.int .i64 (m:Int)] 33)))
  have HV2:=hD (heap_alloc_new w1 (.cells #[.slice b.1 b.2.1 b.2.2,.int .i64 (m:Int)] 33))
  go_wp2_with fail
  refine (HBL.out _).mono ?_
  rintro e w2 ⟨rfl,hb2⟩
  have HS3:=hD (HS2.out.step hb2)
  have HV3:=hD (show w2.heap[w1.heap.size]?=some (.cells #[.slice b.1 b.2.1 b.2.2,.int .i64 (m:Int)] 33) by rw [hb2.block _ (lt_of_block HV2.out)];exact HV2.out)
  clear hb2
  have HKE:=hD (Qa2 HS3.out.res (.slice b.1 b.2.1 b.2.2) (.int .i64 (m:Int)))
  have HBE:=hD (Qa1 HS3.out.bel (Nat.le_succ _) (.slice b.1 b.2.1 b.2.2) (.int .i64 (m:Int)))
  have HLE:=hD (HLW.out.below HBE.out)
  have z2:w.heap.size+1 < w2.heap.size:=HS3.out.sz
  obtain ⟨hk0,hk1,hkf⟩:=Qaj HS3.out.res
  obtain ⟨hv0,hv1,hvf⟩:=Qaj HV3.out
  go_wp2
  refine bodyPost_ret (v := .tuple #[.agg #[.slice b.1 b.2.1 b.2.2,.int .i64 (m:Int)],.bool true]) ?_ rfl (.inl ⟨rfl,b,L,rfl,HLE.out,HF.out,HBE.out⟩)
  exact QbI (fn:=Tryz.f62) (p:=4) (u:=5) rfl _ _ (w.heap.size+1) (by rfl) HKE.out
theorem Qi3 (b:Sl) (bn:Int) (s i f g x:Sl) (N:Nat) (F:Nat->Nat) (w:World) (hn:N<=1000000) (hN1:N≠1) (hN:NumV (vecW 1 b bn s i f g x) 1 1 F w) :
  Calls Tryz.prog 62 #[vecW 1 b bn s i f g x,.int .i64 (N:Int)] w (Qi1 1 1 N F w):=by
 obtain ⟨rfl,L,hL,hF⟩:=hN.bits
 have HLW:=hD hL
 have HF:Hid (∀ j,j < N->F (ixP 1 j)=Qai ((fun _=>L 0) j)):=fun j _=>hF 0 (by decide)
 have HP:=hD (fun W=>Qbi b ((1:Nat):Int) (.slice s.1 s.2.1 s.2.2) (.slice i.1 i.2.1 i.2.2) (.slice f.1 f.2.1 f.2.2) (.slice g.1 g.2.1 g.2.2) (.slice x.1 x.2.1 x.2.2) W)
 have HBL:=hD (fun W=>QeB (.slice b.1 b.2.1 b.2.2) 1 W)
 have HAT:=hD (fun W (hb:Below w.heap.size w W)=>QgJ (W:=W) (n:=1) (by decide) (hL.below hb).in 0 (by decide))
 have HMK:=hD (fun t W=>Qpw N t (by omega) W)
 have HS0:=hD (Sb.new w ⟨1,b,((1:Nat):Int),s,i,f,g,x⟩)
 have e1:((N:Int) != 1)=true:=by simp;omega
 clear hL hF hN hN1
 go_enter Tryz.func62,Tryz.ntmps62
 obtain ⟨h0,h1,h2,h3,h4,h5,h6,h7⟩:=HS0.out.one
 go_wp2_with fail
 refine (HP.out _).mono ?_
 rintro e w1 ⟨rfl,hb1⟩
 have HS1:=hD (HS0.out.step hb1)
 have z1:w.heap.size+1 < w1.heap.size:=HS1.out.sz
 clear hb1 h0 h1 h2 h3 h4 h5 h6 h7
 have HS2:=hD (HS1.out.step (bel1 w1 (.cells #[.slice b.1 b.2.1 b.2.2,.int .i64 ((1:Nat):Int)] 33)))
 have HV2:=hD (heap_alloc_new w1 (.cells #[.slice b.1 b.2.1 b.2.2,.int .i64 ((1:Nat):Int)] 33))
 go_wp2_with fail
 refine (HBL.out _).mono ?_
 rintro e w2 ⟨rfl,hb2⟩
 have HS3:=hD (HS2.out.step hb2)
 have HV3:=hD (show w2.heap[w1.heap.size]?=some (.cells #[.slice b.1 b.2.1 b.2.2,.int .i64 ((1:Nat):Int)] 33) by rw [hb2.block _ (lt_of_block HV2.out)];exact HV2.out)
 clear hb2
 obtain ⟨hv0,hv1,hvf⟩:=Qaj HV3.out
 go_wp2_with fail
 refine (HAT.out _ HS3.out.bel).mono ?_
 rintro e w3 ⟨rfl,hb3⟩
 have HS4:=hD (HS3.out.step hb3)
 clear hb3 hv0 hv1 hvf
 go_wp2_with fail
 refine (HMK.out _ _).mono ?_
 rintro e w4 ⟨gg,rfl,hr4,hb4⟩
 have HS5:=hD (HS4.out.step hb4)
 have HR5:=hD (BitsAt.row (L:=fun _=>L 0) (Qct hr4 (G:=w.heap.size+1) (by show some gg≠_;have:=hr4.low.1;have:=HS4.out.sz;intro e;injection e;omega) (.slice (some ⟨gg,0,none⟩) ((N+63) / 64) ((N+63) / 64)) (.int .i64 (N:Int))))
 clear hr4 hb4
 have HKE:=hD (Qa2 HS5.out.res (.slice (some ⟨gg,0,none⟩) ((N+63) / 64) ((N+63) / 64)) (.int .i64 (N:Int)))
 have HBE:=hD (Qa1 HS5.out.bel (Nat.le_succ _) (.slice (some ⟨gg,0,none⟩) ((N+63) / 64) ((N+63) / 64)) (.int .i64 (N:Int)))
 obtain ⟨hk0,hk1,hkf⟩:=Qaj HS5.out.res
 go_wp2
 refine bodyPost_ret (v := .tuple #[.agg #[.slice (some ⟨gg,0,none⟩) ((N+63) / 64) ((N+63) / 64),.int .i64 (N:Int)],.bool true]) ?_ rfl (.inl ⟨rfl,(some ⟨gg,0,none⟩,(N+63) / 64,(N+63) / 64),fun _=>L 0,rfl,HR5.out,HF.out,HBE.out⟩)
 exact QbI (fn:=Tryz.f62) (p:=4) (u:=5) rfl _ _ (w.heap.size+1) (by rfl) HKE.out
theorem Qee (k:Int) (b:Sl) (bn:Int) (s i f g x:Sl) (m N:Nat) (F:Nat->Nat) (w:World) (hn:N<=1000000) (hmN:m=N\/m=1) (hN:NumV (vecW k b bn s i f g x) k m F w) :
  Calls Tryz.prog 62 #[vecW k b bn s i f g x,.int .i64 (N:Int)] w (Qi1 k m N F w):=by
 by_cases hk:k=1
 ·subst hk
  by_cases h:m=N
  ·exact Qi2 b bn s i f g x m N F w h hN
  ·obtain rfl:m=1:=hmN.resolve_left h
   exact Qi3 b bn s i f g x N F w hn (fun e=>h e.symm) hN
 ·exact QmS k hk b bn s i f g x m N F w
theorem QgW (p:V8) (m i:Nat) (w:World) (hL:∀ W,Below w.heap.size w W->Calls Tryz.prog 23 #[p.v] W fun e w2=>e= .returned (.int .i64 (m:Nat))/\Below W.heap.size W w2) :
  Calls Tryz.prog 113 #[p.v,.int .i64 (i:Int)] w fun e w'=>e= .returned (.int .i64 (ixP m i:Nat))/\Below w.heap.size w w':=by
 have HL:=hD hL
 clear hL
 by_cases h:m=1
 ·have HX:Hid (ixP m i=0):=if_pos h
  have e1:((m:Int)==1)=true:=by simp;omega
  clear h
  go_enter Tryz.func113,Tryz.ntmps113
  go_wp2_with fail
  refine (HL.out _ (bel1 w _)).mono ?_
  rintro e w1 ⟨rfl,hb1⟩
  have HB:=hD (Qaa (bel1 w _) hb1)
  clear hb1
  go_wp2
  go_ret
  exact ⟨by rw [HX.out];rfl,HB.out⟩
 ·have HX:Hid (ixP m i=i):=if_neg h
  have e1:((m:Int)==1)=false:=by simp;omega
  clear h
  go_enter Tryz.func113,Tryz.ntmps113
  go_wp2_with fail
  refine (HL.out _ (bel1 w _)).mono ?_
  rintro e w1 ⟨rfl,hb1⟩
  have HB:=hD (Qaa (bel1 w _) hb1)
  clear hb1
  go_wp2
  go_ret
  exact ⟨by rw [HX.out];rfl,HB.out⟩
theorem At9.c {w:World}{b:Nat}{h:Sl}{p:V8} (g:At9 w b 0 h p):w.cell? ⟨b,0,none⟩=some (.slice h.1 h.2.1 h.2.2)/\w.cell? ⟨b,1,none⟩=some (.int .i64 p.k)/\w.cell? ⟨b,2,none⟩=some (.slice p.b.1 p.b.2.1 p.b.2.2)/\w.cell? ⟨b,3,none⟩=some (.int .i64 p.bn) /\
  w.cell? ⟨b,4,none⟩=some (.slice p.s.1 p.s.2.1 p.s.2.2)/\w.cell? ⟨b,5,none⟩=some (.slice p.i.1 p.i.2.1 p.i.2.2)/\w.cell? ⟨b,6,none⟩=some (.slice p.f.1 p.f.2.1 p.f.2.2)/\w.cell? ⟨b,7,none⟩=some (.slice p.c.1 p.c.2.1 p.c.2.2)/\w.cell? ⟨b,8,none⟩=some (.slice p.x.1 p.x.2.1 p.x.2.2):=g
theorem QmT (k:Int) (hk:k≠6) (b:Value) (bn:Int) (s i f c x:Value) (w:World) :
  Calls Tryz.prog 138 #[vecV k b bn s i f c x] w fun e w'=>e= .returned vnil/\Below w.heap.size w w':=by
 have hk1:(k != 6)=true:=by simpa using hk
 clear hk
 go_enter Tryz.func138,Tryz.ntmps138
 go_wp2
 go_ret
 exact ⟨rfl,bel1 _ _⟩
def AslR (H:Nat->Prop) (w:World) (l:List PA) (e:Ending) (w':World):Prop:=∃ y:Sl,e= .returned (sv y)/\ASl H w' y l/\Below w.heap.size w w'
theorem Qk0 {H:Nat->Prop}{w:World}{x:Sl}{l:List PA} (g:ASl H w x l) (hl:l.length<=1048576) (hH:∀ b,H b->b < w.heap.size) :
  Calls Tryz.prog 138 #[(QdB x).v] w (AslR H w l):=by
 have HB:=hD (bel1 w (QdB x).o)
 have HC:=hD (QmA (g.step HB.out) hl (fun b e=>by have:=hH b e;simp;omega))
 have HH:=hD hH
 clear g hl hH
 go_enter Tryz.func138,Tryz.ntmps138
 go_wp2_with fail
 refine HC.out.mono ?_
 rintro e w1 ⟨u,rfl,ho,hb1⟩
 obtain ⟨y,rfl,hy⟩:=ho.asl (fun b e=>by have:=HH.out b e;simp;omega)
 have HY:=hD hy
 have HB1:=hD (Qaa HB.out hb1)
 clear ho hy hb1
 obtain ⟨yA,yn,yc⟩:=y
 dsimp only [sv]
 go_wp2
 go_ret
 exact ⟨(yA,yn,yc),rfl,HY.out,HB1.out⟩
def arrA:PA->List PA
 | .boxes _ l=>l
 | _=>[]
theorem Qi4 {H:Nat->Prop}{w:World}{a:PA}{h:Sl}{p:V8} (g:AV H w a h p):p.k≠0/\(a.fill≠2->p.k≠6)/\(a.fill≠0->p.k≠1):=by
 cases a with
 | nums s l =>
  rcases g.nums with h | ⟨_,rfl⟩
  ·have hk:=h.num.now.kind
   exact ⟨by omega,fun _=>by omega,fun h=>absurd rfl h⟩
  ·exact ⟨show (1:Int)≠0 by decide,fun _=>show (1:Int)≠6 by decide,fun h=>absurd rfl h⟩
 | chars s l =>
  obtain ⟨c,rfl,_⟩:=g.chars
  exact ⟨show (5:Int)≠0 by decide,fun _=>show (5:Int)≠6 by decide,fun _=>show (5:Int)≠1 by decide⟩
 | boxes s l =>
  obtain ⟨x,rfl,_⟩:=g.asl
  exact ⟨show (6:Int)≠0 by decide,fun h=>absurd rfl h,fun _=>show (6:Int)≠1 by decide⟩
theorem QmU {H:Nat->Prop}{w:World}{a:PA}{h:Sl}{p:V8} (g:AV H w a h p) (hl:a.len<=1048576) (W:World) (hH:∀ b,H b->b < W.heap.size) (hb:Below w.heap.size w W) :
  Calls Tryz.prog 138 #[p.v] W (AslR H W (arrA a)):=by
 have hno:a.fill≠2->arrA a=[]->Calls Tryz.prog 138 #[p.v] W (AslR H W (arrA a)):=by
  intro h2 h0
  rw [h0]
  refine (QmT p.k ((Qi4 g).2.1 h2) _ p.bn _ _ _ _ _ W).mono ?_
  rintro e w' ⟨rfl,hb2⟩
  exact ⟨nilS,rfl,ASl.nil _ _ _ _,hb2⟩
 cases a with
 | nums s l=>exact hno (show (0:Nat)≠2 by decide) rfl
 | chars s l=>exact hno (show (1:Nat)≠2 by decide) rfl
 | boxes s l =>
  obtain ⟨x,rfl,hx⟩:=g.asl
  exact Qk0 (hx.step hb) hl hH
theorem Qi5 {H : Nat → Prop} (l : List PA) (x : Sl) (w : World) (q : Addr) (f : FuncId) (fn : Func) (hfn : Tryz.prog.funcs[f]? = some fn) (hnm : (fn.name == "runtime.NumGoroutine") = false) (co : Code) (hco : fn.body = some co)
  (hx:ASl H w x l) (hm2:l.length<=1048576)
  (hf:∀ i (hi:i < l.length) h p w1,Below w.heap.size w w1->AV H w1 l[i] h p->Calls Tryz.prog f #[arrV h p,.pointer (some q)] w1 fun e w'=>e= .returned (.bool false)/\Below w1.heap.size w1 w') :
  Calls Tryz.prog 226 #[sv x,.func (.func f) #[] #[.pointer (some q)]] w fun e w'=>e= .returned (.int .i64 (-1))/\Below w.heap.size w w':=by
 obtain ⟨A,m,cc⟩:=x
 have hm:m=l.length:=hx.1
 have HK:Hid (∀ i (hi:i < l.length),∃ b o h p,A=some ⟨b,o,none⟩/\¬ H b/\AV H w l[i] h p/\∀ w1,Lat H w w1->At9 w1 b (o+i*9) h p):=hx.at_
 have hmb:m<=1048576:=by omega
 have HM:=hD hm
 have HF:=hD hf
 have hcf:∀ (args:Array Value) (w:World),(callFunc f args).run Tryz.prog w= .ok (.enter f args) w:=by
  intro args w
  have h1 : fn.name ≠ "runtime.NumGoroutine" := by simpa using hnm
  simp [callFunc,hfn,h1,hco]
 clear hx hm2 hm hf hfn hnm hco
 dsimp only [sv]
 go_enter Tryz.func226,Tryz.ntmps226
 go_wp2
 go_loopw [5,8] (fun _ iv wr=>∃ k:Nat,k<=m/\iv= .int .i64 (k:Int)/\Below w.heap.size w wr) (fun _ iv _=>m - (intOf iv).toNat)
 case atStart=>exact ⟨0,Nat.zero_le _,rfl,Below.refl _ _⟩
 case round =>
  obtain ⟨k,hk,rfl,hbl⟩:=hrel
  have HBL:=hD hbl
  by_cases hlt:k < m
  ·have hik:k < l.length:=by have:=HM.out;omega
   obtain ⟨b,o,h',p',rfl,-,hav,hce⟩:=HK.out k hik
   obtain ⟨c0,c1,c2,c3,c4,c5,c6,c7,c8⟩:=hce wr (Lat.below hbl)
   dsimp only [sv] at c0 c1 c2 c3 c4 c5 c6 c7 c8
   have HFC:=hD (HF.out k hik h' p' wr hbl (AV.step hav hbl))
   clear hav hce hbl
   go_wp2_with fail
   refine HFC.out.mono ?_
   rintro e w2 ⟨rfl,hb⟩
   have HB2:=hD (HBL.out.trans (hb.mono HBL.out.size))
   clear hb c0 c1 c2 c3 c4 c5 c6 c7 c8
   go_wp2
   go_roundw
   case rel=>exact ⟨k+1,by omega,by go_num,HB2.out⟩
   case measure=>simp [intOf];omega
  ·clear hbl
   go_wp2
   go_ret
   exact ⟨rfl,HBL.out⟩
theorem QfR {H : Nat → Prop} (l : List PA) (x : Sl) (w : World) (q : Addr) (f : FuncId) (fn : Func) (hfn : Tryz.prog.funcs[f]? = some fn) (hnm : (fn.name == "runtime.NumGoroutine") = false) (co : Code) (hco : fn.body = some co)
  (hx:ASl H w x l) (hm2:l.length<=1048576)
  (hf:∀ i (hi:i < l.length) h p w1,Below w.heap.size w w1->AV H w1 l[i] h p->Calls Tryz.prog f #[arrV h p,.pointer (some q)] w1 fun e w'=>e= .returned (.bool false)/\Below w1.heap.size w1 w') :
  Calls Tryz.prog 167 #[sv x,.func (.func f) #[] #[.pointer (some q)]] w fun e w'=>e= .returned (.bool false)/\Below w.heap.size w w':=by
 have HI:=hD (Qi5 l x w q f fn hfn hnm co hco hx hm2 hf)
 clear hx hm2 hf hfn hnm hco
 go_enter Tryz.func167,Tryz.ntmps167
 go_wp2_with fail
 refine HI.out.mono ?_
 rintro e w' ⟨rfl,hb⟩
 have HB:=hD hb
 clear hb
 go_wp2
 go_ret
 exact ⟨rfl,HB.out⟩
theorem QmV {H:Nat->Prop}{w:World}{a:PA}{h:Sl}{p:V8} (g:AV H w a h p) (hl:a.len<=1000000) (W:World) (hb:Below w.heap.size w W) :
  ∃ (u:Sl) (n:Int) (t:Bool),Calls Tryz.prog 28 #[p.v] W (fun e w'=>e= .returned (.tuple #[.agg #[.slice u.1 u.2.1 u.2.2,.int .i64 n],.bool t])/\Below W.heap.size W w') /\
   (t=true->∀ W',Below W.heap.size W W'->Calls Tryz.prog 166 #[.agg #[.slice u.1 u.2.1 u.2.2,.int .i64 n]] W' (fun e w'=>e= .returned (.bool true)/\Below W'.heap.size W' w')):=by
 by_cases hk:p.k=1
 ·have hf:a.fill=0:=Classical.byContradiction fun h=>(Qi4 g).2.2 h hk
  cases a with
  | chars s l=>cases hf
  | boxes s l=>cases hf
  | nums s l =>
   rcases g.nums with h | ⟨_,rfl⟩
   ·have hn:=(Keeps.lat h.num (Lat.below hb)).now
    obtain ⟨k,b,bn,s,i,f,c,x⟩:=p
    obtain rfl:k=1:=hk
    obtain ⟨rfl,L,hat,_⟩:=NumV.bits hn
    exact ⟨b,_,true,Qbi b _ _ _ _ _ _ W,fun _ W' hb'=>QmM (hat.below hb').in hl⟩
   ·exact ⟨nilS,0,true,Qbi nilS _ _ _ _ _ _ W,fun _ W' _=>Qpu W'⟩
 ·exact ⟨nilS,0,false,QeY p.k hk _ p.bn _ _ _ _ _ W,fun h=>by cases h⟩
theorem QhR:∀ (d:Nat) (H:Nat->Prop) (a:PA) (h:Sl) (p:V8) (w:World) (z:Int),z=(d:Int)->d<=100->(∀ b,H b->b < w.heap.size)->GoodA d a->SmA 1000000 a->AV H w a h p ->
  Calls Tryz.prog 104 #[arrV h p,.int .i64 z] w fun e w'=>e= .returned (.bool true)/\Below w.heap.size w w'
 | 0,_,a,_,_,_,_,_,_,_,hg,_,_=>absurd hg.sh.1 (Nat.lt_irrefl _)
 | d+1,H,a,h,p,w,z,hz,hd,hH,hg,hs,hav=>by
  have hlen:a.len<=1000000:=hs.len
  obtain ⟨w0,hw0⟩:∃ w0,w0=(w.alloc (arrO h p)).alloc (.cells #[.int .i64 z] 3):=⟨_,rfl⟩
  have hb0:Below w.heap.size w w0:=by rw [hw0];exact bel2 _ _ _
  have hsz:w0.heap.size=w.heap.size+2:=by rw [hw0];simp
  have h9:At9 w0 w.heap.size 0 h p:=by rw [hw0];exact (QaV w h p).below (bel1 _ _)
  have hq:w0.cell? ⟨w.heap.size+1,0,none⟩=some (.int .i64 z):=by rw [hw0,World.cell?_alloc_at _ _ _ _ (by simp)];rfl
  have HPR:Hid (Calls Tryz.prog 119 #[sv h,.int .i64 1048576] w0 fun e w'=>e= .returned (.tuple #[.int .i64 (a.len:Int),.int .i64 0])/\w0=w'):=by
   have q:=Qcy (sv h) a.shape 1048576 w0 (Keeps.lat hav.shape (Lat.below hb0)).now (by have:=hg.sh.2.1;omega)
   rw [QdE hg.sh.2 (by omega)] at q
   exact q
  have HLN:=hD (fun W (hb:Below w0.heap.size w0 W)=>Qbj hav W (Qaa hb0 hb))
  have HTI:=hD (fun W (hb:Below w0.heap.size w0 W)=>Qpv hav hlen W (Qaa hb0 hb))
  have HKI:=hD (fun W=>QaY p.k (.slice p.b.1 p.b.2.1 p.b.2.2) p.bn (.slice p.s.1 p.s.2.1 p.s.2.2) (.slice p.i.1 p.i.2.1 p.i.2.2) (.slice p.f.1 p.f.2.1 p.f.2.2) (.slice p.c.1 p.c.2.1 p.c.2.2) (.slice p.x.1 p.x.2.1 p.x.2.2) W)
  have hk0:(p.k==0)=false:=by have:=(Qi4 hav).1;simpa using this
  have HPK:=hD (fun W (hb:Below w0.heap.size w0 W)=>QmV hav hlen W (Qaa hb0 hb))
  have HAR:=hD (fun W (hb:Below w0.heap.size w0 W)=>QmU hav (by omega) W (fun b e=>by have:=hH b e;have:=hb.size;omega) (Qaa hb0 hb))
  have hz0:(z==0)=false:=by simp;omega
  have hcl:∀ i (hi:i < (arrA a).length) h' p' w1,Below w0.heap.size w0 w1->AV H w1 (arrA a)[i] h' p' ->
    Calls Tryz.prog 168 #[arrV h' p',.pointer (some ⟨w.heap.size+1,0,none⟩)] w1 fun e w'=>e= .returned (.bool false)/\Below w1.heap.size w1 w':=by
   intro i hi h' p' w1 hb hav'
   have hga:GoodA d (arrA a)[i]/\SmA 1000000 (arrA a)[i]:=by
    cases a with
    | nums s l=>simp [arrA] at hi
    | chars s l=>simp [arrA] at hi
    | boxes s l=>exact ⟨show GoodA d l[i] by simpa using hg.boxes i hi,hs.boxes i hi⟩
   generalize (arrA a)[i]=a' at hga hav'
   have hqd:w1.cell? ⟨w.heap.size+1,0,none⟩=some (.int .i64 z):=QaB hb hq
   have hq2:(w1.alloc (arrO h' p')).cell? ⟨w.heap.size+1,0,none⟩=some (.int .i64 z):=QaB (bel1 w1 (arrO h' p')) hqd
   have HC:=hD (QhR d H a' h' p' (w1.alloc (arrO h' p')) (z - 1) (by omega) (by omega) (fun b e=>by have:=hH b e;have:=hb.size;simp;omega) hga.1 hga.2 (AV.step hav' (bel1 w1 (arrO h' p'))))
   have HB1:=hD (bel1 w1 (arrO h' p'))
   have hz1:0<=z - 1:=by omega
   have hz2:z<=101:=by omega
   clear hqd hb hav' hga hz hg hs hav h9 hq hw0 hb0 hsz HPR HLN HTI HKI HPK HAR hz0 hk0
   go_enter Tryz.func168,Tryz.ntmps168
   go_wp2_with fail
   (with_reducible refine HC.out.mono ?_)
   rintro e w2 ⟨rfl,hb⟩
   have HB2:=hD (Qaa HB1.out hb)
   clear hb hq2
   go_wp2
   go_ret
   exact ⟨rfl,HB2.out⟩
  have HCT:=hD (fun W y (hb:Below w0.heap.size w0 W) (hy:ASl H W y (arrA a))=>QfR (arrA a) y W ⟨w.heap.size+1,0,none⟩ 168 _ Tryz.func168 (by kernel_rfl) _ rfl hy (by
   cases a with
   | nums s l=>simp [arrA]
   | chars s l=>simp [arrA]
   | boxes s l=>exact Nat.le_trans (show l.length<=1000000 from hlen) (by decide)) (fun i hi h' p' w1 hb1 hav'=>hcl i hi h' p' w1 (Qaa hb hb1) hav'))
  have H90:=hD h9
  have HW0:=hD hw0
  have HB0:=hD hb0
  have HQ:=hD hq
  generalize a.len=n at HPR HLN
  have hnn:((n:Int) != (n:Int))=false:=by simp
  clear hcl hlen hw0 hb0 hsz h9 hq hz hd hH hg hs hav
  go_enter Tryz.func104,Tryz.ntmps104
  go_wp2_with fail
  rw [<- HW0.out]
  refine HPR.out.mono ?_
  rintro e w1 ⟨rfl,rfl⟩
  obtain ⟨c0,c1,c2,c3,c4,c5,c6,c7,c8⟩:=H90.out.c
  go_wp2_with fail
  refine (HLN.out _ (Below.refl _ _)).mono ?_
  rintro e w1 ⟨rfl,hb⟩
  have H91:=hD (H90.out.below hb)
  have HB1:=hD hb
  clear hb c0 c1 c2 c3 c4 c5 c6 c7 c8
  obtain ⟨c0,c1,c2,c3,c4,c5,c6,c7,c8⟩:=H91.out.c
  go_wp2_with fail
  refine (HKI.out _).mono ?_
  rintro e w2 ⟨rfl,hb⟩
  have H92:=hD (H91.out.below hb)
  have HB2:=hD (Qaa HB1.out hb)
  clear hb c0 c1 c2 c3 c4 c5 c6 c7 c8
  obtain ⟨c0,c1,c2,c3,c4,c5,c6,c7,c8⟩:=H92.out.c
  go_wp2_with fail
  refine (HTI.out _ HB2.out).mono ?_
  rintro e w3 ⟨rfl,hb⟩
  have H93:=hD (H92.out.below hb)
  have HB3:=hD (Qaa HB2.out hb)
  clear hb c0 c1 c2 c3 c4 c5 c6 c7 c8
  obtain ⟨c0,c1,c2,c3,c4,c5,c6,c7,c8⟩:=H93.out.c
  have q3:=QaB HB3.out HQ.out
  obtain ⟨u,m,t,hpk,htd⟩:=HPK.out _ HB3.out
  have HTD:=hD htd
  have HPC:=hD hpk
  clear htd hpk
  go_wp2_with fail
  refine HPC.out.mono ?_
  rintro e w4 ⟨rfl,hb⟩
  have HP0:=hD (hb)
  have HB4:=hD (Qaa HB3.out (Qaa hb (bel1 w4 (.cells #[.slice u.1 u.2.1 u.2.2,.int .i64 m] 33))))
  have H94:=hD (H93.out.below (Qaa hb (bel1 w4 (.cells #[.slice u.1 u.2.1 u.2.2,.int .i64 m] 33))))
  clear hb c0 c1 c2 c3 c4 c5 c6 c7 c8 q3
  have HTC:Hid (t=true->Calls Tryz.prog 166 #[.agg #[.slice u.1 u.2.1 u.2.2,.int .i64 m]] (w4.alloc (.cells #[.slice u.1 u.2.1 u.2.2,.int .i64 m] 33)) fun e w'=>e= .returned (.bool true)/\Below (w4.alloc (.cells #[.slice u.1 u.2.1 u.2.2,.int .i64 m] 33)).heap.size (w4.alloc (.cells #[.slice u.1 u.2.1 u.2.2,.int .i64 m] 33)) w'):=fun ht=>HTD.out ht _ (Qaa HP0.out (bel1 _ _))
  obtain ⟨c0,c1,c2,c3,c4,c5,c6,c7,c8⟩:=H94.out.c
  have q4:=QaB HB4.out HQ.out
  cases t with
  | false =>
   go_wp2_with fail
   refine (HAR.out _ HB4.out).mono ?_
   rintro e w6 ⟨y,rfl,hy,hb⟩
   have HB6:=hD (Qaa HB4.out hb)
   have HCC:=hD (HCT.out w6 y HB6.out hy)
   clear hb hy c0 c1 c2 c3 c4 c5 c6 c7 c8 q4
   obtain ⟨yA,yn,yc⟩:=y
   go_wp2_with fail
   refine HCC.out.mono ?_
   rintro e w7 ⟨rfl,hb⟩
   have HB7:=hD (Qaa HB0.out (Qaa HB6.out hb))
   clear hb
   go_wp2
   go_ret
   exact ⟨rfl,HB7.out⟩
  | true =>
   have HT:=hD (HTC.out rfl)
   go_wp2_with fail
   refine HT.out.mono ?_
   rintro e w5 ⟨rfl,hb⟩
   have HB5:=hD (Qaa HB4.out hb)
   have H95:=hD (H94.out.below hb)
   clear hb c0 c1 c2 c3 c4 c5 c6 c7 c8 q4
   obtain ⟨c0,c1,c2,c3,c4,c5,c6,c7,c8⟩:=H95.out.c
   go_wp2_with fail
   refine (HAR.out _ HB5.out).mono ?_
   rintro e w6 ⟨y,rfl,hy,hb⟩
   have HB6:=hD (Qaa HB5.out hb)
   have HCC:=hD (HCT.out w6 y HB6.out hy)
   clear hb hy c0 c1 c2 c3 c4 c5 c6 c7 c8
   obtain ⟨yA,yn,yc⟩:=y
   go_wp2_with fail
   refine HCC.out.mono ?_
   rintro e w7 ⟨rfl,hb⟩
   have HB7:=hD (Qaa HB0.out (Qaa HB6.out hb))
   clear hb
   go_wp2
   go_ret
   exact ⟨rfl,HB7.out⟩
theorem QmW {H:Nat->Prop}{w:World}{a:PA}{h:Sl}{p:V8} (hav:AV H w a h p) (hH:∀ b,H b->b < w.heap.size) (hg:GoodA 40 a) (hs:SmA 1000000 a) :
  Calls Tryz.prog 54 #[arrV h p] w fun e w'=>e= .returned (.bool true)/\Below w.heap.size w w':=by
 have HB:=hD (bel1 w (arrO h p))
 have HC:=hD (QhR 40 H a h p _ 40 rfl (by decide) (fun b e=>by have:=hH b e;simp;omega) hg hs (AV.step hav HB.out))
 clear hav hH hg hs
 go_enter Tryz.func54,Tryz.ntmps54
 go_wp2_with fail
 refine HC.out.mono ?_
 rintro e w1 ⟨rfl,hb⟩
 have HB1:=hD (Qaa HB.out hb)
 clear hb
 go_wp2
 go_ret
 exact ⟨rfl,HB1.out⟩
structure A2 (w W:World) (h1:Sl) (p:V8) (h2:Sl) (q:V8):Prop where
 one:At9 W w.heap.size 0 h1 p
 two:At9 W (w.heap.size+1) 0 h2 q
 bel:Below w.heap.size w W
abbrev A2C (w W:World) (h1:Sl) (p:V8) (h2:Sl) (q:V8):Prop:=((W.cell? ⟨w.heap.size,0,none⟩=some (.slice h1.1 h1.2.1 h1.2.2)/\W.cell? ⟨w.heap.size,1,none⟩=some (.int .i64 p.k)/\W.cell? ⟨w.heap.size,2,none⟩=some (.slice p.b.1 p.b.2.1 p.b.2.2)/\W.cell? ⟨w.heap.size,3,none⟩=some (.int .i64 p.bn)/\W.cell? ⟨w.heap.size,4,none⟩=some (.slice p.s.1 p.s.2.1 p.s.2.2)/\W.cell? ⟨w.heap.size,5,none⟩=some (.slice p.i.1 p.i.2.1 p.i.2.2)/\W.cell? ⟨w.heap.size,6,none⟩=some (.slice p.f.1 p.f.2.1 p.f.2.2)/\W.cell? ⟨w.heap.size,7,none⟩=some (.slice p.c.1 p.c.2.1 p.c.2.2)/\W.cell? ⟨w.heap.size,8,none⟩=some (.slice p.x.1 p.x.2.1 p.x.2.2))/\(W.cell? ⟨w.heap.size+1,0,none⟩=some (.slice h2.1 h2.2.1 h2.2.2)/\W.cell? ⟨w.heap.size+1,1,none⟩=some (.int .i64 q.k)/\W.cell? ⟨w.heap.size+1,2,none⟩=some (.slice q.b.1 q.b.2.1 q.b.2.2)/\W.cell? ⟨w.heap.size+1,3,none⟩=some (.int .i64 q.bn)/\W.cell? ⟨w.heap.size+1,4,none⟩=some (.slice q.s.1 q.s.2.1 q.s.2.2)/\W.cell? ⟨w.heap.size+1,5,none⟩=some (.slice q.i.1 q.i.2.1 q.i.2.2)/\W.cell? ⟨w.heap.size+1,6,none⟩=some (.slice q.f.1 q.f.2.1 q.f.2.2)/\W.cell? ⟨w.heap.size+1,7,none⟩=some (.slice q.c.1 q.c.2.1 q.c.2.2)/\W.cell? ⟨w.heap.size+1,8,none⟩=some (.slice q.x.1 q.x.2.1 q.x.2.2)))
theorem A2.step {w W W':World}{h1 h2:Sl}{p q:V8} (h:A2 w W h1 p h2 q) (hb:Below W.heap.size W W'):A2 w W' h1 p h2 q:=⟨h.one.below hb,h.two.below hb,Qaa h.bel hb⟩
theorem A2.dr {w W:World}{h1 h2:Sl}{p q:V8} (h:A2 w W h1 p h2 q):A2 w W.drew h1 p h2 q:=h.step (Below.refl _ W).drew
theorem A2.self {w W:World}{h1 h2:Sl}{p q:V8} (h:A2 w W h1 p h2 q):A2 w W h1 p h2 q:=h
theorem A2.new (w:World) (h1 h2:Sl) (p q:V8):A2 w ((w.alloc (arrO h1 p)).alloc (arrO h2 q)) h1 p h2 q:=by
 have h:=QaV (w.alloc (arrO h1 p)) h2 q
 have e:(w.alloc (arrO h1 p)).heap.size=w.heap.size+1:=by simp
 rw [e] at h
 exact ⟨(QaV w h1 p).below (bel1 _ _),h,bel2 w _ _⟩
def FrR (a b:PA) (h1 h2:Sl) (w:World) (e:Ending) (w':World):Prop :=
 (((Qaq a b).1=0/\∃ s:Sl,e= .returned (.tuple #[sv s,.int .i64 0])/\((s=h1/\(Qaq a b).2=a.shape)\/(s=h2/\(Qaq a b).2=b.shape)))\/((Qaq a b).1≠0/\e= .returned (.tuple #[vnil,.int .i64 (Qaq a b).1])))/\Below w.heap.size w w'
theorem QrK {a b:PA}{h1 h2:Sl}{w w':World} (e:Qaq a b=(0,a.shape)) (hb:Below w.heap.size w w'):FrR a b h1 h2 w (.returned (.tuple #[sv h1,.int .i64 0])) w':=⟨.inl ⟨by rw [e],h1,rfl,.inl ⟨rfl,by rw [e]⟩⟩,hb⟩
theorem Qtm {a b:PA}{h1 h2:Sl}{w w':World} (e:Qaq a b=(0,b.shape)) (hb:Below w.heap.size w w'):FrR a b h1 h2 w (.returned (.tuple #[sv h2,.int .i64 0])) w':=⟨.inl ⟨by rw [e],h2,rfl,.inr ⟨rfl,by rw [e]⟩⟩,hb⟩
theorem Qtn {a b:PA}{h1 h2:Sl}{w w':World}{z:Int} (e:Qaq a b=(z,[])) (hz:z≠0) (hb:Below w.heap.size w w'):FrR a b h1 h2 w (.returned (.tuple #[vnil,.int .i64 z])) w':=⟨.inr ⟨by rw [e];exact hz,by rw [e]⟩,hb⟩
def AvAt (H:Nat->Prop) (a:PA) (h:Sl) (p:V8) (W:World):Prop:=AV H W a h p
theorem AvAt.step {H:Nat->Prop}{a:PA}{h:Sl}{p:V8}{W W':World} (g:AvAt H a h p W) (hb:Below W.heap.size W W'):AvAt H a h p W':=AV.step g hb
theorem AvAt.dr {H:Nat->Prop}{a:PA}{h:Sl}{p:V8}{W:World} (g:AvAt H a h p W):AvAt H a h p W.drew:=g.step (Below.refl _ W).drew
theorem AvAt.al {H:Nat->Prop}{a:PA}{h:Sl}{p:V8}{W:World} (g:AvAt H a h p W) (o:Obj):AvAt H a h p (W.alloc o):=g.step (bel1 W o)
theorem AvAt.self {H:Nat->Prop}{a:PA}{h:Sl}{p:V8}{W:World} (g:AvAt H a h p W):AvAt H a h p W:=g
def ZB (Z:Nat) (W:World):Prop:=W.heap[Z]?=some QbN
theorem ZB.new (W:World):ZB W.heap.size (W.alloc QbN):=heap_alloc_new W _
theorem ZB.dr {Z:Nat}{W:World} (g:ZB Z W):ZB Z W.drew:=g
theorem ZB.step {Z:Nat}{W W':World} (g:ZB Z W) (hb:Below W.heap.size W W'):ZB Z W':=by
 unfold ZB at g ⊢
 rw [hb.block _ (lt_blk g)]
 exact g
theorem QgX (a:PA):∃ items,rawP a= .mk (a.shape.map Int.ofNat) items (a.fill:Nat)/\items.length=a.len:=by
 cases a with
 | nums s l=>exact ⟨_,by rw [rawP];rfl,by simp [PA.len]⟩
 | chars s l=>exact ⟨_,by rw [rawP];rfl,by simp [PA.len]⟩
 | boxes s l=>exact ⟨_,by rw [rawP];rfl,Qbe l⟩
theorem Qbc {α:Type}{g:α->Value}{w:World}{v:Value}{s:List α} (h:Reads1 w v (s.map g)):∃ A n c,v= .slice A n c/\n=s.length /\
  ∀ i (hi:i < s.length),∃ b o,A=some ⟨b,o,none⟩/\w.cell? ⟨b,o+i,none⟩=some (g s[i]):=by
 rcases h with ⟨a,c,rfl,h0⟩ | ⟨b,o,n,c,rfl,hn,hc⟩
 ·have:s=[]:=by simpa using h0
  subst this
  exact ⟨a,0,c,rfl,rfl,fun i hi=>by simp at hi⟩
 ·rw [List.length_map] at hn
  exact ⟨_,n,c,rfl,hn,fun i hi=>⟨b,o,rfl,by rw [hc i (by simpa using hi)];simp⟩⟩
theorem Qqp (k:Int) (b:Value) (bn:Int) (s i f c x:Value) (n j:Nat) (hj:j < n) (w:World)
  (hL:∀ W,Below w.heap.size w W->Calls Tryz.prog 23 #[vecV k b bn s i f c x] W fun e w2=>e= .returned (.int .i64 (n:Nat))/\Below W.heap.size W w2) :
  Calls Tryz.prog 149 #[vecV k b bn s i f c x,.int .i64 (j:Nat)] w fun e w'=>e= .returned (.bool true)/\Below w.heap.size w w':=by
 have HL:=hD (hL _ (bel1 w (.cells #[.int .i64 k,b,.int .i64 bn,s,i,f,c,x] 39)))
 have h0:(0:Int)<=(j:Int):=by omega
 have h1:(j:Int) < (n:Int):=by omega
 clear hL
 go_enter Tryz.func149,Tryz.ntmps149
 go_wp2_with fail
 refine HL.out.mono ?_
 rintro e w1 ⟨rfl,hb1⟩
 have HB:=hD (Qaa (bel1 w _) hb1)
 clear hb1
 go_wp2
 go_ret
 exact ⟨by simp,HB.out⟩
theorem Qcm {H:Nat->Prop}{w:World}{s:List Nat}{l:List Int}{h:Sl}{p:V8} (g:AV H w (.chars s l) h p) (j:Nat) (hj:j < l.length) (W:World) (hb:Below w.heap.size w W) :
  Calls Tryz.prog 93 #[p.v,.int .i64 (j:Nat)] W fun e w'=>e= .returned (.int .i32 l[j])/\Below W.heap.size W w':=by
 have hlen:=fun W' (hb':Below W.heap.size W W')=>Qbj g W' (Qaa hb hb')
 obtain ⟨⟨A,n,cc⟩,rfl,hr⟩:=g.chars
 obtain ⟨A',n',cc',hv,hn,hc⟩:=Qbc (Keeps.lat hr (Lat.below hb)).now
 injection hv with e1 e2 e3
 subst e1;subst e2;subst e3
 dsimp only at hn hc
 obtain ⟨b,o,rfl,hce⟩:=hc j hj
 have HI:=hD (fun W' (hb':Below W.heap.size W W')=>Qqp 5 vnil 0 vnil vnil vnil (.slice (some ⟨b,o,none⟩) n cc) vnil l.length j hj W' (fun W2 hb2=>hlen W2 (Qaa hb' hb2)))
 have hj0:(0:Int)<=(j:Int):=by omega
 have hj1:(j:Int) < (n:Int):=by omega
 have hj2:j < n:=by omega
 have HC:=hD hce
 generalize l[j]=y at HC
 clear g hlen hr hn hc hj hb hce
 go_enter Tryz.func93,Tryz.ntmps93
 go_wp2_with fail
 refine (HI.out _ (bel1 _ _)).mono ?_
 rintro e w1 ⟨rfl,hb1⟩
 have HB:=hD (Qaa (bel1 W _) hb1)
 obtain ⟨h0,h1,h2,h3,h4,h5,h6,h7⟩:=(QaF W 39 5 vnil 0 vnil vnil vnil (.slice (some ⟨b,o,none⟩) n cc) vnil).below hb1
 have hcell:=QaB HB.out HC.out
 clear hb1
 go_wp2
 go_ret
 exact ⟨rfl,HB.out⟩
def BoxR (H:Nat->Prop) (w W:World) (a:PA) (e:Ending) (w':World):Prop:=∃ h p,e= .returned (arrV h p)/\AV H w a h p/\Below W.heap.size W w'
theorem QdL {H:Nat->Prop}{w:World}{s:List Nat}{l:List PA}{h:Sl}{p:V8} (g:AV H w (.boxes s l) h p) (j:Nat) (hj:j < l.length) (W:World) (hb:Below w.heap.size w W) :
  Calls Tryz.prog 108 #[p.v,.int .i64 (j:Nat)] W (BoxR H w W l[j]):=by
 have hlen:=fun W' (hb':Below W.heap.size W W')=>Qbj g W' (Qaa hb hb')
 obtain ⟨A,n,cc,rfl,hn,hk⟩:=g.boxes
 obtain ⟨b,o,h',p',rfl,hnH,hav,hat⟩:=hk j hj
 have HI:=hD (fun W' (hb':Below W.heap.size W W')=>Qqp 6 vnil 0 vnil vnil vnil vnil (.slice (some ⟨b,o,none⟩) n cc) l.length j hj W' (fun W2 hb2=>hlen W2 (Qaa hb' hb2)))
 have hj0:(0:Int)<=(j:Int):=by omega
 have hj1:(j:Int) < (n:Int):=by omega
 have hj2:j < n:=by omega
 have HA:=hD hav
 have HAT:=hD (fun w1 (hb1:Below W.heap.size W w1)=>hat w1 (Lat.below (Qaa hb hb1)))
 generalize l[j]=y at HA
 clear g hlen hn hk hj hb hav hat hnH
 go_enter Tryz.func108,Tryz.ntmps108
 go_wp2_with fail
 refine (HI.out _ (bel2 _ _ _)).mono ?_
 rintro e w1 ⟨rfl,hb1⟩
 have HB:=hD (Qaa (bel2 W _ _) hb1)
 obtain ⟨h0,h1,h2,h3,h4,h5,h6,h7⟩:=((QaF W 39 6 vnil 0 vnil vnil vnil vnil (.slice (some ⟨b,o,none⟩) n cc)).below (bel1 _ (.cells Qec 41))).below hb1
 have hres:w1.heap[W.heap.size+1]?=some (.cells Qec 41):=by
  have h:=Qar hb1
  simpa using h
 have HR:=hD hres
 obtain ⟨⟨y0,y1,y2,y3,y4,y5,y6,y7,y8⟩,yz⟩:=Qam hres
 obtain ⟨c0,c1,c2,c3,c4,c5,c6,c7,c8⟩:=HAT.out _ HB.out
 dsimp only [sv] at c0 c1 c2 c3 c4 c5 c6 c7 c8
 clear hb1 hres
 go_wp2
 refine bodyPost_ret (v:=arrV h' p') ?_ rfl ⟨h',p',rfl,HA.out,Qal HB.out (Nat.le_succ _) _ _ _ _ _ _ _ _ _⟩
 exact Qfg (fn:=Tryz.f108) (p:=4) rfl _ _ (W.heap.size+1) (by rfl) (Qat HR.out _ _ _ _ _ _ _ _ _)
end Go.Proofs.YtdelgpelkfndeaaGreatDoor
