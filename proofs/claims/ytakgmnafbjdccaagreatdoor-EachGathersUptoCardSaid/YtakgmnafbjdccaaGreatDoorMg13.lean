/- The walks of fold.Start and of the reference's Start at every function. The walk of fold.row. Rows of truths put together: plain law. The walk of fold.packed. .. Conditions: as each theorem says. -/
import Derived.Test.YtakgmnafbjdccaaGreatDoorMg12
import Derived.Test.YtakgmnafbjdccaaGreatDoorMg08
set_option maxRecDepth 100000
set_option maxHeartbeats 4000000
namespace Go.Proofs.YtakgmnafbjdccaaGreatDoor
open Go Go.RowKit Go.Proofs Fl
theorem int18 {P:Int->Prop} (f:Int) (hk:knownB f=true) (h1:P 1) (h2:P 2) (h3:P 3) (h4:P 4) (h5:P 5) (h6:P 6) (h7:P 7) (h8:P 8) (h11:P 11) (h12:P 12) (h13:P 13) (h14:P 14) (h15:P 15) (h16:P 16) (h21:P 21) (h22:P 22) (h23:P 23) (h24:P 24):P f:=by
 unfold knownB at hk
 rw [decide_eq_true_eq] at hk
 have:f=1\/f=2\/f=3\/f=4\/f=5\/f=6\/f=7\/f=8\/f=11\/f=12\/f=13\/f=14\/f=15\/f=16\/f=21\/f=22\/f=23\/f=24:=by omega
 rcases this with rfl | rfl | rfl | rfl | rfl | rfl | rfl | rfl | rfl | rfl | rfl | rfl | rfl | rfl | rfl | rfl | rfl | rfl <;> assumption
def bZ (b:Bool):Int:=if b then 1 else 0
theorem rowflag_any (b:Bool) (w:World):Calls Tryz.prog 242 #[.bool b] w fun e w'=>e= .returned (.tuple #[.int .i64 (bZ b),.bool true])/\w=w':=by
 cases b
 all_goals
  go_enter Tryz.func242,Tryz.ntmps242
  go_wp2
  go_ret2
  exact ⟨rfl,rfl⟩
theorem not_in (v:Value) (n:Nat) (l:Nat->Bool) (w:World) (hn:n<=1048576) (hb:BitsIn w v n l) :
  Calls Tryz.prog 245 #[v] w fun e w'=>∃ v',e= .returned v'/\BitsIn w' v' n (fun i => !l i)/\Below w.heap.size w w':=by
 obtain ⟨b,o,c,rfl,hc⟩:=hb
 refine (not_any b o c n l w hn hc).mono ?_
 rintro e w1 ⟨g,rfl,hr,hb⟩
 exact ⟨_,rfl,.of_row hr,hb⟩
def rowB (q:Int) (l:Nat->Bool) (n:Nat):Option Int :=
 if q=1 then some (cnt l n:Nat) else if q=5\/q=22 then some (bZ (decide (cnt l n≠0)))
 else if q=6\/q=3\/q=21 then some (bZ (decide (cnt l n=n)))
 else if q=16 then some (bZ (((cnt l n % 2:Nat):Int)==1))
 else if q=13 then some (bZ (((cnt (fun i => !l i) n % 2:Nat):Int)==0))
 else if q=2 then some (altN l n) else none
def RowB (r:Option Int) (w:World) (e:Ending) (w':World):Prop:=e= .returned (.tuple #[.int .i64 (r.getD 0),.bool r.isSome])/\Below w.heap.size w w'
theorem row_any (q:Int) (hq:knownB q=true) (v:Value) (n:Nat) (l:Nat->Bool) (w:World) (hn:n<=1048576) (hb:BitsIn w v n l) (ht:TzTab w) :
  Calls Tryz.prog 215 #[.int .i64 q,v] w (RowB (rowB q l n) w):=by
 have HCN:=Lib.hid (fun W (hw:Below w.heap.size w W)=>count_any v n l W hn (hb.below hw))
 have HAL:=Lib.hid (fun W (hw:Below w.heap.size w W)=>lall_any v n l W hn (hb.below hw))
 have HAN:=Lib.hid (fun W (hw:Below w.heap.size w W)=>lany_any v n l W hn (hb.below hw) (ht.below hw))
 have HLS:=Lib.hid (fun W (hw:Below w.heap.size w W)=>less_any v n l W hn (hb.below hw) (ht.below hw))
 have HNT:=Lib.hid (fun W (hw:Below w.heap.size w W)=>not_in v n l W hn (hb.below hw))
 obtain ⟨b,o,c,rfl,_⟩:=hb
 have HFL:=Lib.hid (fun b W=>rowflag_any b W)
 have hcb:cnt l n<=1048576:=by have:=cnt_le l n;omega
 have hcb2:cnt (fun i => !l i) n<=1048576:=by have:=cnt_le (fun i => !l i) n;omega
 have ha1:=and1 (cnt l n) (by omega)
 have ha2:=and1 (cnt (fun i => !l i) n) (by omega)
 have HNC:=Lib.hid (fun W v (h:BitsIn W v n (fun i => !l i))=>count_any v n (fun i => !l i) W hn h)
 obtain ⟨r,HR⟩:∃ r,Hid (rowB q l n=r):=⟨_,rfl⟩
 rw [HR.out]
 have HQ:=Lib.hid hq
 clear hq ht
 revert HR
 unfold rowB
 generalize cnt l n=k1 at *
 generalize cnt (fun i => !l i) n=k2 at *
 generalize altN l n=k3 at *
 generalize decide (k1≠0)=d1 at *
 generalize decide (k1=n)=d2 at *
 obtain ⟨m1,em1⟩:∃ m,m=k1 % 2:=⟨_,rfl⟩
 obtain ⟨m2,em2⟩:∃ m,m=k2 % 2:=⟨_,rfl⟩
 rw [<- em1] at ha1 ⊢
 rw [<- em2] at ha2 ⊢
 obtain ⟨d3,ed3⟩:∃ d,((m1:Int)==1)=d:=⟨_,rfl⟩
 obtain ⟨d4,ed4⟩:∃ d,((m2:Int)==0)=d:=⟨_,rfl⟩
 rw [ed3,ed4]
 clear em1 em2
 have HB0:=Lib.hid (bel1 w (.cells #[.slice (some ⟨b,o,none⟩) ((n+63) / 64) c,.int .i64 (n:Int)] 31))
 refine int18 (P:=fun q=>Hid ((if q=1 then some ((k1:Nat):Int) else if q=5\/q=22 then some (bZ d1) else if q=6\/q=3\/q=21 then some (bZ d2) else if q=16 then some (bZ d3) else if q=13 then some (bZ d4) else if q=2 then some k3 else none)=r)->Calls Tryz.prog 215 #[.int .i64 q,.agg #[.slice (some ⟨b,o,none⟩) ((n+63) / 64) c,.int .i64 (n:Int)]] w (RowB r w)) q HQ.out ?_ ?_ ?_ ?_ ?_ ?_ ?_ ?_ ?_ ?_ ?_ ?_ ?_ ?_ ?_ ?_ ?_ ?_
 ·intro HR
  obtain rfl:=HR.out
  go_enter Tryz.func215,Tryz.ntmps215
  go_wp2_with fail
  refine (HCN.out _ HB0.out).mono ?_
  rintro e w1 ⟨rfl,hb1⟩
  have HB1:=Lib.hid (bel_both HB0.out hb1)
  clear hb1
  go_wp2
  go_ret2
  exact ⟨rfl,HB1.out⟩
 ·intro HR
  obtain rfl:=HR.out
  go_enter Tryz.func215,Tryz.ntmps215
  go_wp2_with fail
  refine (HLS.out _ HB0.out).mono ?_
  rintro e w1 ⟨rfl,hb1⟩
  have HB1:=Lib.hid (bel_both HB0.out hb1)
  clear hb1
  go_wp2
  go_ret2
  exact ⟨rfl,HB1.out⟩
 ·intro HR
  obtain rfl:=HR.out
  go_enter Tryz.func215,Tryz.ntmps215
  go_wp2_with fail
  refine (HAL.out _ HB0.out).mono ?_
  rintro e w1 ⟨rfl,hb1⟩
  have HB1:=Lib.hid (bel_both HB0.out hb1)
  clear hb1
  go_wp2_with fail
  refine (HFL.out _ _).mono ?_
  rintro e w3 ⟨rfl,rfl⟩
  go_wp2
  go_ret2
  exact ⟨rfl,HB1.out⟩
 ·intro HR
  obtain rfl:=HR.out
  go_enter Tryz.func215,Tryz.ntmps215
  go_wp2
  go_ret2
  exact ⟨rfl,HB0.out⟩
 ·intro HR
  obtain rfl:=HR.out
  go_enter Tryz.func215,Tryz.ntmps215
  go_wp2_with fail
  refine (HAN.out _ HB0.out).mono ?_
  rintro e w1 ⟨rfl,hb1⟩
  have HB1:=Lib.hid (bel_both HB0.out hb1)
  clear hb1
  go_wp2_with fail
  refine (HFL.out _ _).mono ?_
  rintro e w3 ⟨rfl,rfl⟩
  go_wp2
  go_ret2
  exact ⟨rfl,HB1.out⟩
 ·intro HR
  obtain rfl:=HR.out
  go_enter Tryz.func215,Tryz.ntmps215
  go_wp2_with fail
  refine (HAL.out _ HB0.out).mono ?_
  rintro e w1 ⟨rfl,hb1⟩
  have HB1:=Lib.hid (bel_both HB0.out hb1)
  clear hb1
  go_wp2_with fail
  refine (HFL.out _ _).mono ?_
  rintro e w3 ⟨rfl,rfl⟩
  go_wp2
  go_ret2
  exact ⟨rfl,HB1.out⟩
 ·intro HR
  obtain rfl:=HR.out
  go_enter Tryz.func215,Tryz.ntmps215
  go_wp2
  go_ret2
  exact ⟨rfl,HB0.out⟩
 ·intro HR
  obtain rfl:=HR.out
  go_enter Tryz.func215,Tryz.ntmps215
  go_wp2
  go_ret2
  exact ⟨rfl,HB0.out⟩
 ·intro HR
  obtain rfl:=HR.out
  go_enter Tryz.func215,Tryz.ntmps215
  go_wp2
  go_ret2
  exact ⟨rfl,HB0.out⟩
 ·intro HR
  obtain rfl:=HR.out
  go_enter Tryz.func215,Tryz.ntmps215
  go_wp2
  go_ret2
  exact ⟨rfl,HB0.out⟩
 ·intro HR
  obtain rfl:=HR.out
  go_enter Tryz.func215,Tryz.ntmps215
  go_wp2_with fail
  refine (HNT.out _ HB0.out).mono ?_
  rintro e w1 ⟨v1,rfl,hbn,hb1⟩
  have HBN:=Lib.hid hbn
  have HBX:=Lib.hid (bel_both HB0.out hb1)
  clear hb1 hbn
  go_wp2_with fail
  refine (HNC.out _ _ HBN.out).mono ?_
  rintro e w2 ⟨rfl,hb1⟩
  have HB1:=Lib.hid (bel_both HBX.out hb1)
  clear hb1
  go_wp2_with fail
  refine (HFL.out _ _).mono ?_
  rintro e w3 ⟨rfl,rfl⟩
  go_wp2
  go_ret2
  exact ⟨rfl,HB1.out⟩
 ·intro HR
  obtain rfl:=HR.out
  go_enter Tryz.func215,Tryz.ntmps215
  go_wp2
  go_ret2
  exact ⟨rfl,HB0.out⟩
 ·intro HR
  obtain rfl:=HR.out
  go_enter Tryz.func215,Tryz.ntmps215
  go_wp2
  go_ret2
  exact ⟨rfl,HB0.out⟩
 ·intro HR
  obtain rfl:=HR.out
  go_enter Tryz.func215,Tryz.ntmps215
  go_wp2_with fail
  refine (HCN.out _ HB0.out).mono ?_
  rintro e w1 ⟨rfl,hb1⟩
  have HB1:=Lib.hid (bel_both HB0.out hb1)
  clear hb1
  go_wp2_with fail
  refine (HFL.out _ _).mono ?_
  rintro e w3 ⟨rfl,rfl⟩
  go_wp2
  go_ret2
  exact ⟨rfl,HB1.out⟩
 ·intro HR
  obtain rfl:=HR.out
  go_enter Tryz.func215,Tryz.ntmps215
  go_wp2_with fail
  refine (HAL.out _ HB0.out).mono ?_
  rintro e w1 ⟨rfl,hb1⟩
  have HB1:=Lib.hid (bel_both HB0.out hb1)
  clear hb1
  go_wp2_with fail
  refine (HFL.out _ _).mono ?_
  rintro e w3 ⟨rfl,rfl⟩
  go_wp2
  go_ret2
  exact ⟨rfl,HB1.out⟩
 ·intro HR
  obtain rfl:=HR.out
  go_enter Tryz.func215,Tryz.ntmps215
  go_wp2_with fail
  refine (HAN.out _ HB0.out).mono ?_
  rintro e w1 ⟨rfl,hb1⟩
  have HB1:=Lib.hid (bel_both HB0.out hb1)
  clear hb1
  go_wp2_with fail
  refine (HFL.out _ _).mono ?_
  rintro e w3 ⟨rfl,rfl⟩
  go_wp2
  go_ret2
  exact ⟨rfl,HB1.out⟩
 ·intro HR
  obtain rfl:=HR.out
  go_enter Tryz.func215,Tryz.ntmps215
  go_wp2
  go_ret2
  exact ⟨rfl,HB0.out⟩
 ·intro HR
  obtain rfl:=HR.out
  go_enter Tryz.func215,Tryz.ntmps215
  go_wp2
  go_ret2
  exact ⟨rfl,HB0.out⟩
def bI (b:Bool):Int:=if b then 1 else 0
theorem bI_01 (b:Bool):bI b=0\/bI b=1:=by cases b;exact .inl rfl;exact .inr rfl
theorem bI_good (b:Bool):Good (bI b):=by cases b <;> decide
theorem flagF_bI (b:Bool):flagF b=fi (bI b):=by cases b;exact fi_zero.symm;exact fi_one.symm
theorem isT_fi (b:Bool):isT (fi (bI b))=true:=by rw [<- flagF_bI];cases b <;> decide
theorem tv_fi (b:Bool):tv (fi (bI b))=b:=by rw [<- flagF_bI];cases b <;> decide
theorem cmpFI_eq (a b:Bool):(cmpF (fi (bI a)) (fi (bI b))== .eq)=(a==b):=by rw [<- flagF_bI,<- flagF_bI];cases a <;> cases b <;> decide+kernel
theorem cmp_ne (a b:Bool):(cmpF (fi (bI a)) (fi (bI b)) != .eq)=(a != b):=by rw [<- flagF_bI,<- flagF_bI];cases a <;> cases b <;> decide+kernel
def opI (q:Int) (b:Bool) (T:Int):Int :=
 if q=1 then bI b+T else if q=2 then bI b - T else if q=3 then bI b*T else if q=5 then max (bI b) T else if q=6 then min (bI b) T
 else if q=13 then bI (decide (bI b=T)) else if q=16 then bI (decide (bI b≠T)) else if q=21 then bI (b&&decide (T=1)) else bI (b||decide (T=1))
theorem wholeZ_op {q:Int} (hq:q=1\/q=2\/q=3\/q=5\/q=6) (b:Bool) (T:Int) (hg:Good (opI q b T)):wholeZ q (bI b) T=some (opI q b T):=by
 rcases hq with rfl | rfl | rfl | rfl | rfl
 ·show okZ (bI b+T)=some (bI b+T)
  unfold okZ;exact if_pos (goodB_iff.2 hg)
 ·show okZ (bI b - T)=some (bI b - T)
  unfold okZ;exact if_pos (goodB_iff.2 hg)
 ·show okZ (bI b*T)=some (bI b*T)
  unfold okZ;exact if_pos (goodB_iff.2 hg)
 ·rfl
 ·rfl
theorem step_bits (pw:Nat->Nat->Nat×Int) (q:Int) (hq:q=1\/q=2\/q=3\/q=5\/q=6\/q=13\/q=16\/q=21\/q=22) (b:Bool) (T:Int) (hT:Good T) (hg:Good (opI q b T)) (h01:q≠1->q≠2->T=0\/T=1):oneP pw q (fi (bI b)) (fi T)=(fi (opI q b T),0):=by
 by_cases h5:q=1\/q=2\/q=3\/q=5\/q=6
 ·exact wholeZ_one pw (bI_good b) hT (wholeZ_op h5 b T hg)
 ·have h4:q=13\/q=16\/q=21\/q=22:=by omega
  obtain ⟨t,rfl⟩:∃ t,T=bI t:=by
   rcases h01 (by omega) (by omega) with e | e
   ·exact ⟨false,e⟩
   ·exact ⟨true,e⟩
  rcases h4 with rfl | rfl | rfl | rfl
  ·show (flagF (cmpF (fi (bI b)) (fi (bI t))== .eq),0)=(fi (bI (decide (bI b=bI t))),0)
   rw [cmpFI_eq,flagF_bI]
   cases b <;> cases t <;> rfl
  ·show (flagF (cmpF (fi (bI b)) (fi (bI t)) != .eq),0)=(fi (bI (decide (bI b≠bI t))),0)
   rw [cmp_ne,flagF_bI]
   cases b <;> cases t <;> rfl
  ·show logP 21 _ _=(fi (bI (b&&decide (bI t=1))),0)
   unfold logP
   rw [isT_fi,isT_fi,tv_fi,tv_fi,flagF_bI]
   cases b <;> cases t <;> rfl
  ·show logP 22 _ _=(fi (bI (b||decide (bI t=1))),0)
   unfold logP
   rw [isT_fi,isT_fi,tv_fi,tv_fi,flagF_bI]
   cases b <;> cases t <;> rfl
def tI (q:Int) (l:Nat->Bool) (n:Nat):Nat->Int
 | 0=>bI (l (n - 1))
 | m+1=>opI q (l (n - 2 - m)) (tI q l n m)
theorem steps_bits (pw:Nat->Nat->Nat×Int) (q:Int) (hq:q=1\/q=2\/q=3\/q=5\/q=6\/q=13\/q=16\/q=21\/q=22) (l:Nat->Bool) (n:Nat) (hgood:∀ m,m<=n - 1->Good (tI q l n m)) (h01:q≠1->q≠2->∀ m,m<=n - 1->tI q l n m=0\/tI q l n m=1) (x:Nat->Nat) (hx:∀ i,i < n->x i=fi (bI (l i))) (hn:1<=n) :
  ∀ m,m<=n - 1->stepsR (oneP pw q) x n m=some (fi (tI q l n m)):=by
 intro m
 induction m with
 | zero=>intro _;show some (x (n - 1))=some (fi (bI (l (n - 1))));rw [hx _ (by omega)]
 | succ m ih =>
  intro hm
  show (stepsR _ _ _ m).bind _=_
  rw [ih (by omega)]
  have hs:=step_bits pw q hq (l (n - 2 - m)) (tI q l n m) (hgood m (by omega)) (hgood (m+1) hm) (fun a b=>h01 a b m (by omega))
  show (if (oneP pw q (x (n - 2 - m)) (fi (tI q l n m))).2=0 then some (oneP pw q (x (n - 2 - m)) (fi (tI q l n m))).1 else none)=_
  rw [hx (n - 2 - m) (by omega),hs]
  rfl
theorem cnt_mono (l:Nat->Bool) (p n:Nat) (h:p<=n):cnt l p<=cnt l n/\cnt l n<=cnt l p+(n - p):=by
 have e:n=p+(n - p):=by omega
 rw [e,cnt_add]
 have:=cnt_le (fun i=>l (p+i)) (n - p)
 omega
theorem cnt_at (l:Nat->Bool) (p:Nat):((cnt l (p+1):Nat):Int)=(cnt l p:Nat)+bI (l p):=by
 show ((cnt l p+(if l p then 1 else 0):Nat):Int)=_
 unfold bI
 split <;> simp
theorem t_1 (l:Nat->Bool) (n:Nat) (hn:1<=n):∀ m,m<=n - 1->tI 1 l n m=(cnt l n:Nat) - (cnt l (n - 1 - m):Nat):=by
 intro m
 induction m with
 | zero =>
  intro _
  have:=cnt_at l (n - 1)
  rw [show n - 1+1=n by omega] at this
  show bI _=_
  rw [Nat.sub_zero];omega
 | succ m ih =>
  intro hm
  have:=cnt_at l (n - 2 - m)
  rw [show n - 2 - m+1=n - 1 - m by omega] at this
  show bI _+tI 1 l n m=_
  rw [ih (by omega),show n - 1 - (m+1)=n - 2 - m by omega]
  omega
theorem t_2 (l:Nat->Bool) (n:Nat) (hn:1<=n):∀ m,m<=n - 1->tI 2 l n m=(1 - 2*(((n - 1 - m) % 2:Nat):Int))*(altN l n - altN l (n - 1 - m)):=by
 intro m
 induction m with
 | zero =>
  intro _
  have h:altN l (n - 1+1)=altN l (n - 1)+if l (n - 1) then 1 - 2*(((n - 1) % 2:Nat):Int) else 0:=rfl
  rw [show n - 1+1=n by omega] at h
  show bI _=_
  rw [Nat.sub_zero,h]
  have h2:(n - 1) % 2=0\/(n - 1) % 2=1:=by omega
  unfold bI
  rcases h2 with e | e <;> rw [e] <;> split <;> simp <;> omega
 | succ m ih =>
  intro hm
  have h:altN l (n - 2 - m+1)=altN l (n - 2 - m)+if l (n - 2 - m) then 1 - 2*(((n - 2 - m) % 2:Nat):Int) else 0:=rfl
  rw [show n - 2 - m+1=n - 1 - m by omega] at h
  show bI _ - tI 2 l n m=_
  rw [ih (by omega),show n - 1 - (m+1)=n - 2 - m by omega,h]
  have h2:((n - 2 - m) % 2=0/\(n - 1 - m) % 2=1)\/((n - 2 - m) % 2=1/\(n - 1 - m) % 2=0):=by omega
  unfold bI
  rcases h2 with ⟨e,e'⟩ | ⟨e,e'⟩ <;> rw [e,e'] <;> split <;> simp <;> omega
def cntL (l:Nat->Bool) (n m:Nat):Nat:=cnt l n - cnt l (n - 1 - m)
theorem cntL_zero (l:Nat->Bool) (n:Nat) (hn:1<=n):cntL l n 0=(if l (n - 1) then 1 else 0):=by
 have h:cnt l (n - 1+1)=cnt l (n - 1)+(if l (n - 1) then 1 else 0):=rfl
 rw [show n - 1+1=n by omega] at h
 unfold cntL
 rw [Nat.sub_zero]
 omega
theorem cntL_succ (l:Nat->Bool) (n m:Nat) (hm:m+1<=n - 1):cntL l n (m+1)=cntL l n m+(if l (n - 2 - m) then 1 else 0):=by
 have h:cnt l (n - 2 - m+1)=cnt l (n - 2 - m)+(if l (n - 2 - m) then 1 else 0):=rfl
 rw [show n - 2 - m+1=n - 1 - m by omega] at h
 have:=(cnt_mono l (n - 1 - m) n (by omega)).1
 unfold cntL
 rw [show n - 1 - (m+1)=n - 2 - m by omega]
 omega
theorem cntL_le (l:Nat->Bool) (n m:Nat) (hn:1<=n):cntL l n m<=m+1:=by
 have:=(cnt_mono l (n - 1 - m) n (by omega)).2
 unfold cntL
 omega
theorem cntL_all (l:Nat->Bool) (n:Nat):cntL l n (n - 1)=cnt l n:=by
 unfold cntL
 rw [Nat.sub_self];rfl
theorem t_or (q:Int) (hq:q=5\/q=22) (l:Nat->Bool) (n:Nat) (hn:1<=n):∀ m,m<=n - 1->tI q l n m=bI (decide (cntL l n m≠0)):=by
 intro m
 induction m with
 | zero =>
  intro _
  show bI _=_
  rw [cntL_zero l n hn]
  cases l (n - 1) <;> rfl
 | succ m ih =>
  intro hm
  show opI q _ (tI q l n m)=_
  rw [ih (by omega),cntL_succ l n m hm]
  cases l (n - 2 - m) <;> by_cases h:cntL l n m=0 <;> rcases hq with rfl | rfl <;> simp [opI,bI,h]
  all_goals decide
theorem t_and (q:Int) (hq:q=6\/q=3\/q=21) (l:Nat->Bool) (n:Nat) (hn:1<=n):∀ m,m<=n - 1->tI q l n m=bI (decide (cntL l n m=m+1)):=by
 intro m
 induction m with
 | zero =>
  intro _
  show bI _=_
  rw [cntL_zero l n hn]
  cases l (n - 1) <;> rfl
 | succ m ih =>
  intro hm
  have hle:=cntL_le l n m hn
  show opI q _ (tI q l n m)=_
  rw [ih (by omega),cntL_succ l n m hm]
  cases l (n - 2 - m)
  ·have h2:¬ cntL l n m+0=m+1+1:=by omega
   by_cases h:cntL l n m=m+1 <;> rcases hq with rfl | rfl | rfl <;> simp [opI,bI,h]
   all_goals omega
  ·by_cases h:cntL l n m=m+1 <;> rcases hq with rfl | rfl | rfl <;> simp [opI,bI,h]
   all_goals decide
theorem t_ne (l:Nat->Bool) (n:Nat) (hn:1<=n):∀ m,m<=n - 1->tI 16 l n m=bI (decide (cntL l n m % 2=1)):=by
 intro m
 induction m with
 | zero =>
  intro _
  show bI _=_
  rw [cntL_zero l n hn]
  cases l (n - 1) <;> rfl
 | succ m ih =>
  intro hm
  show opI 16 _ (tI 16 l n m)=_
  rw [ih (by omega),cntL_succ l n m hm]
  have h2:cntL l n m % 2=0\/cntL l n m % 2=1:=by omega
  cases l (n - 2 - m)
  ·rcases h2 with h | h <;> simp [opI,bI,h]
  ·have h3:(cntL l n m+1) % 2=1 - cntL l n m % 2:=by omega
   rcases h2 with h | h <;> simp [opI,bI,h,h3]
theorem t_eq (l:Nat->Bool) (n:Nat) (hn:1<=n):∀ m,m<=n - 1->tI 13 l n m=bI (decide (cntL (fun i => !l i) n m % 2=0)):=by
 intro m
 induction m with
 | zero =>
  intro _
  show bI _=_
  rw [cntL_zero _ n hn]
  cases l (n - 1) <;> rfl
 | succ m ih =>
  intro hm
  show opI 13 _ (tI 13 l n m)=_
  rw [ih (by omega),cntL_succ _ n m hm]
  have h2:cntL (fun i => !l i) n m % 2=0\/cntL (fun i => !l i) n m % 2=1:=by omega
  cases l (n - 2 - m)
  ·have h3:(cntL (fun i => !l i) n m+1) % 2=1 - cntL (fun i => !l i) n m % 2:=by omega
   rcases h2 with h | h <;> simp [opI,bI,h,h3]
  ·rcases h2 with h | h <;> simp [opI,bI,h]
theorem altN_bound (l:Nat->Bool) (a d:Nat):-(d:Int)<=altN l (a+d) - altN l a/\altN l (a+d) - altN l a<=d:=by
 induction d with
 | zero=>exact ⟨by simp,by simp⟩
 | succ d ih =>
  have h:altN l (a+d+1)=altN l (a+d)+if l (a+d) then 1 - 2*(((a+d) % 2:Nat):Int) else 0:=rfl
  rw [show a+(d+1)=a+d+1 by omega,h]
  split <;> omega
theorem row_bits (pw:Nat->Nat->Nat×Int) (q:Int) (l:Nat->Bool) (n:Nat) (z:Int) (hz:rowB q l n=some z) (x:Nat->Nat) (hx:∀ i,i < n->x i=fi (bI (l i))) (hn:1<=n) (hb:n<=1048576):rowR (oneP pw q) x n=some (fi z)/\Good z:=by
 unfold rowR
 have hc:=cnt_le l n
 have hg01:∀ T:Int,T=0\/T=1->Good T:=by rintro T (rfl | rfl) <;> decide
 unfold rowB at hz
 split at hz
 ·rename_i e;subst e
  injection hz with hz;subst hz
  have ht:=t_1 l n hn
  have hgd:∀ m,m<=n - 1->Good (tI 1 l n m):=fun m hm=>by
   rw [ht m hm]
   have:=cnt_mono l (n - 1 - m) n (by omega)
   show _/\_
   omega
  have hs:=steps_bits pw 1 (.inl rfl) l n hgd (fun h=>absurd rfl h) x hx hn (n - 1) (Nat.le_refl _)
  rw [ht (n - 1) (Nat.le_refl _),Nat.sub_self] at hs
  rw [hs]
  refine ⟨by have e:((cnt l n:Nat):Int) - ((cnt l 0:Nat):Int)=(cnt l n:Nat):=Int.sub_zero _;rw [e],?_⟩
  show _/\_
  omega
 split at hz
 ·rename_i e
  injection hz with hz;subst hz
  have ht:=t_or q e l n hn
  have h01:∀ m,m<=n - 1->tI q l n m=0\/tI q l n m=1:=fun m hm=>by rw [ht m hm];exact bI_01 _
  have hs:=steps_bits pw q (by omega) l n (fun m hm=>hg01 _ (h01 m hm)) (fun _ _ m hm=>h01 m hm) x hx hn (n - 1) (Nat.le_refl _)
  rw [ht (n - 1) (Nat.le_refl _),cntL_all] at hs
  exact ⟨hs,bI_good _⟩
 split at hz
 ·rename_i e
  injection hz with hz;subst hz
  have ht:=t_and q e l n hn
  have h01:∀ m,m<=n - 1->tI q l n m=0\/tI q l n m=1:=fun m hm=>by rw [ht m hm];exact bI_01 _
  have hs:=steps_bits pw q (by omega) l n (fun m hm=>hg01 _ (h01 m hm)) (fun _ _ m hm=>h01 m hm) x hx hn (n - 1) (Nat.le_refl _)
  rw [ht (n - 1) (Nat.le_refl _),cntL_all,show n - 1+1=n by omega] at hs
  exact ⟨hs,bI_good _⟩
 split at hz
 ·rename_i e;subst e
  injection hz with hz;subst hz
  have ht:=t_ne l n hn
  have h01:∀ m,m<=n - 1->tI 16 l n m=0\/tI 16 l n m=1:=fun m hm=>by rw [ht m hm];exact bI_01 _
  have hs:=steps_bits pw 16 (by omega) l n (fun m hm=>hg01 _ (h01 m hm)) (fun _ _ m hm=>h01 m hm) x hx hn (n - 1) (Nat.le_refl _)
  rw [ht (n - 1) (Nat.le_refl _),cntL_all] at hs
  refine ⟨?_,bI_good _⟩
  rw [hs]
  congr 3
  rw [Bool.eq_iff_iff,decide_eq_true_eq,beq_iff_eq]
  omega
 split at hz
 ·rename_i e;subst e
  injection hz with hz;subst hz
  have ht:=t_eq l n hn
  have h01:∀ m,m<=n - 1->tI 13 l n m=0\/tI 13 l n m=1:=fun m hm=>by rw [ht m hm];exact bI_01 _
  have hs:=steps_bits pw 13 (by omega) l n (fun m hm=>hg01 _ (h01 m hm)) (fun _ _ m hm=>h01 m hm) x hx hn (n - 1) (Nat.le_refl _)
  rw [ht (n - 1) (Nat.le_refl _),cntL_all] at hs
  refine ⟨?_,bI_good _⟩
  rw [hs]
  congr 3
  rw [Bool.eq_iff_iff,decide_eq_true_eq,beq_iff_eq]
  omega
 split at hz
 ·rename_i e;subst e
  injection hz with hz;subst hz
  have ht:=t_2 l n hn
  have hgd:∀ m,m<=n - 1->Good (tI 2 l n m):=fun m hm=>by
   rw [ht m hm]
   have hbd:=altN_bound l (n - 1 - m) (m+1)
   rw [show n - 1 - m+(m+1)=n by omega] at hbd
   have h2:(n - 1 - m) % 2=0\/(n - 1 - m) % 2=1:=by omega
   show _/\_
   rcases h2 with e | e <;> rw [e] <;> simp <;> omega
  have hs:=steps_bits pw 2 (by omega) l n hgd (fun _ h=>absurd rfl h) x hx hn (n - 1) (Nat.le_refl _)
  have hbd:=altN_bound l 0 n
  rw [Nat.zero_add] at hbd
  have h0:altN l 0=0:=rfl
  rw [ht (n - 1) (Nat.le_refl _),Nat.sub_self,h0] at hs
  rw [hs]
  refine ⟨by congr 2;simp,?_⟩
  rw [h0] at hbd
  show _/\_
  omega
 ·cases hz
theorem cut_in (v:Value) (n a t:Nat) (l:Nat->Bool) (w:World) (hn:n<=1048576) (hat:a<=t) (htn:t<=n) (hb:BitsIn w v n l) :
  Calls Tryz.prog 109 #[v,.int .i64 (a:Int),.int .i64 (t:Int)] w fun e w'=>∃ v',e= .returned v'/\BitsIn w' v' (t - a) (fun i=>l (a+i))/\Below w.heap.size w w':=by
 obtain ⟨b,o,c,rfl,hc⟩:=hb
 refine (cut_any b o c n a t l w hn hat htn hc).mono ?_
 rintro e w1 ⟨g,rfl,hr,hb⟩
 exact ⟨_,rfl,.of_row hr,hb⟩
def rowl (l:Nat->Bool) (n o:Nat):Nat->Bool:=fun i=>l (o*n+i)
def zB (q:Int) (l:Nat->Bool) (n o:Nat):Int:=(rowB q (rowl l n o) n).getD 0
theorem rowsR_bits (pw:Nat->Nat->Nat×Int) (q:Int) (l:Nat->Bool) (F:Nat->Nat) (outer n o:Nat) (hn:1<=n) (hb:n<=1048576) (ho:o < outer) (hF:∀ j,j < outer*n->F j=fi (bI (l j))) (z:Int) (hz:rowB q (rowl l n o) n=some z) :
  rowsR (oneP pw q) F n 1 o=some (fi z)/\Good z:=by
 have h:=row_bits pw q (rowl l n o) n z hz (lineF F n 1 (o / 1) (o % 1)) (fun i hi=>by
  unfold lineF rowl
  rw [Nat.div_one,Nat.mod_one,Nat.mul_one,Nat.mul_one,Nat.add_zero]
  refine hF _ ?_
  have:(o+1)*n<=outer*n:=Nat.mul_le_mul_right _ ho
  rw [Nat.add_mul] at this
  omega) hn hb
 exact h
theorem packed_any (pw:Nat->Nat->Nat×Int) (H:Nat->Prop) (q:Int) (hq:knownB q=true) (v:Value) (outer n:Nat) (l:Nat->Bool) (F:Nat->Nat) (w:World) (hH:∀ b,H b->b < w.heap.size)
  (hn:1<=n) (hT:outer*n<=1000000) (hob:outer<=1000000) (hb:BitsIn w v (outer*n) l) (hF:∀ j,j < outer*n->F j=fi (bI (l j))) (ht:TzTab w) :
  Calls Tryz.prog 165 #[.int .i64 q,v,.int .i64 (outer:Int),.int .i64 (n:Int)] w (FwOut H w (oneP pw q) F n 1 outer):=by
 obtain ⟨T,hTT⟩:∃ T,T=outer*n:=⟨_,rfl⟩
 rw [<- hTT] at hb hT
 have hnb:outer=0\/n<=1000000:=by
  rcases Nat.eq_zero_or_pos outer with e | e
  ·exact .inl e
  ·right
   have:1*n<=outer*n:=Nat.mul_le_mul_right _ e
   omega
 have HCUT:=Lib.hid (fun W (hw:Below w.heap.size w W) a t (h1:a<=t) (h2:t<=T)=>cut_in v T a t l W (by omega) h1 h2 (hb.below hw))
 have HTZ:=Lib.hid ht
 have HH:=Lib.hid hH
 have HTT:=Lib.hid hTT
 have HQ:=Lib.hid hq
 have HRB:=Lib.hid (fun o (ho:o < outer) (hnb:n<=1048576) z hz=>rowsR_bits pw q l F outer n o hn hnb ho hF z hz)
 have hmk:=run_make_row' (P:=Tryz.prog) 33 2 (.int .i64 0) 8 Tryz.underlying33 info_i64 rfl .i64 .i64 outer (by omega) (by omega)
 obtain ⟨b,o,c,rfl,_⟩:=hb
 clear ht hH hF hq hTT
 have HF0:Hid (Fill (((w.alloc (.cells #[.slice (some ⟨b,o,none⟩) ((T+63) / 64) c,.int .i64 (T:Int)] 31)).alloc (.cells zcells 38)).alloc (.cells (madeCells #[.int .i64 0] outer) 2)) (w.heap.size+2) (w.heap.size+1+1) 2 (fun o => .int .i64 (zB q l n o)) (.int .i64 0) outer 0):=by
  have h:=Fill.made ((w.alloc (.cells #[.slice (some ⟨b,o,none⟩) ((T+63) / 64) c,.int .i64 (T:Int)] 31)).alloc (.cells zcells 38)) (w.heap.size+2) (by simp) 2 (fun o => .int .i64 (zB q l n o)) (.int .i64 0) outer (by unfold maxLen;omega)
  rw [show ((w.alloc (.cells #[.slice (some ⟨b,o,none⟩) ((T+63) / 64) c,.int .i64 (T:Int)] 31)).alloc (.cells zcells 38)).heap.size=w.heap.size+1+1 by simp] at h
  exact h
 obtain ⟨W0,eW0⟩:∃ W,W=(w.alloc (.cells #[.slice (some ⟨b,o,none⟩) ((T+63) / 64) c,.int .i64 (T:Int)] 31)).alloc (.cells zcells 38):=⟨_,rfl⟩
 have HW0:Hid (W0.heap.size=w.heap.size+2/\Below w.heap.size w W0/\W0.heap[w.heap.size]?=some (.cells #[.slice (some ⟨b,o,none⟩) ((T+63) / 64) c,.int .i64 (T:Int)] 31)/\W0.heap[w.heap.size+1]?=some (.cells zcells 38)):=by
  rw [eW0]
  refine ⟨by simp,bel2 w _ _,block_up (bel1 (w.alloc _) _),?_⟩
  have h:=heap_alloc_new (w.alloc (.cells #[.slice (some ⟨b,o,none⟩) ((T+63) / 64) c,.int .i64 (T:Int)] 31)) (.cells zcells 38)
  rw [show (w.alloc (.cells #[.slice (some ⟨b,o,none⟩) ((T+63) / 64) c,.int .i64 (T:Int)] 31)).heap.size=w.heap.size+1 by simp] at h
  exact h
 have HBM:Hid (Below (w.heap.size+2) W0 (W0.alloc (.cells (madeCells #[.int .i64 0] outer) 2))):=by
  have h:=bel1 W0 (.cells (madeCells #[.int .i64 0] outer) 2)
  rw [HW0.out.1] at h
  exact h
 have HEW:=Lib.hid eW0
 clear eW0
 go_enter Tryz.func165,Tryz.ntmps165
 go_wp2_with fail
 go_loopw [20] (fun j wr=>∃ m:Nat,m<=outer/\j= .int .i64 m/\Fill wr (w.heap.size+2) (w.heap.size+1+1) 2 (fun o => .int .i64 (zB q l n o)) (.int .i64 0) outer m/\Below (w.heap.size+2) W0 wr/\∀ j,j < m->∃ z,rowB q (rowl l n j) n=some z) (fun j _=>outer - (intOf j).toNat)
 case atStart=>exact ⟨0,Nat.zero_le _,rfl,HF0.out,by have h:=HBM.out;rw [HEW.out] at h ⊢;exact h,fun j hj=>absurd hj (Nat.not_lt_zero _)⟩
 case round =>
  clear hmk HF0 HBM HEW
  obtain ⟨m,hm,rfl,hf,hbl,hall⟩:=hrel
  have HF:=Lib.hid hf
  have HBL:=Lib.hid hbl
  have HALL:=Lib.hid hall
  have HBW:=Lib.hid (HW0.out.2.1.trans (hbl.mono (by omega)))
  have HKB:=Lib.hid (show wr.heap[w.heap.size]?=some (.cells #[.slice (some ⟨b,o,none⟩) ((T+63) / 64) c,.int .i64 (T:Int)] 31) by rw [hbl.block _ (by omega)];exact HW0.out.2.2.1)
  have HKV:=Lib.hid (show wr.heap[w.heap.size+1]?=some (.cells zcells 38) by rw [hbl.block _ (by omega)];exact HW0.out.2.2.2)
  clear hf hbl hall
  by_cases hlt:m < outer
  ·have hnb2:n<=1000000:=by omega
   obtain ⟨A,eA⟩:∃ A,A=m*n:=⟨_,rfl⟩
   obtain ⟨B,eB⟩:∃ B,B=(m+1)*n:=⟨_,rfl⟩
   have hBA:B=A+n:=by rw [eA,eB,Nat.add_mul,Nat.one_mul]
   have hBT:B<=T:=by rw [eB,HTT.out];exact Nat.mul_le_mul_right _ hlt
   have f1:(m:Int)*(n:Int)=(A:Int):=by rw [eA];push_cast;rfl
   have f2:((m:Int)+1)*(n:Int)=(B:Int):=by rw [eB];push_cast;rfl
   have hlt2:(m:Int) < (outer:Int):=by omega
   have HCT:=Lib.hid (HCUT.out wr HBW.out A B (by omega) hBT)
   rw [show B - A=n by omega] at HCT
   have hAT:A<=1000000:=by omega
   have hBb:B<=1000000:=by omega
   have HRL:Hid ((fun i=>l (A+i))=rowl l n m):=by show _=_;unfold rowl;rw [eA]
   rw [HRL.out] at HCT
   obtain ⟨hk0,hk1,hkf⟩:=pair_of HKB.out
   clear eA eB hBA hBT
   go_wp2_with fail
   refine HCT.out.mono ?_
   rintro e w3 ⟨v3,rfl,hbi,hb3⟩
   have HR3:=Lib.hid (row_any q HQ.out v3 n (rowl l n m) w3 (by omega) hbi (HTZ.out.below (bel_both HBW.out hb3)))
   have HB3:=Lib.hid hb3
   have hz3:zB q l n m=(rowB q (rowl l n m) n).getD 0:=rfl
   have HRZ:=Lib.hid hz3
   clear hb3 hbi hk0 hk1 hkf hz3
   generalize hrr:rowB q (rowl l n m) n=rr at HR3 HRZ
   have HRR:=Lib.hid hrr
   clear hrr
   unfold RowB at HR3
   rcases rr with _ | z
   ·go_wp2_with fail
    refine HR3.out.mono ?_
    rintro e w4 ⟨rfl,hb4⟩
    have HB4:=Lib.hid (bel_both HBW.out (bel_both HB3.out hb4))
    have HKV4:=Lib.hid (show w4.heap[w.heap.size+1]?=some (.cells zcells 38) by rw [(bel_both HB3.out hb4).block _ (lt_of_block HKV.out)];exact HKV.out)
    clear hb4
    obtain ⟨⟨h0,h1,h2,h3,h4,h5,h6,h7⟩,hz⟩:=boxed_of HKV4.out
    go_wp2
    refine bodyPost_ret (v := .tuple #[vecV 0 vnil 0 vnil vnil vnil vnil vnil,.bool false]) ?_ rfl (.inr ⟨rfl,below_set8 HB4.out (Nat.le_succ _) _ _ _ _ _ _ _ _⟩)
    exact ret_vec2 (fn:=Tryz.f165) (p:=8) (u:=9) rfl _ _ (w.heap.size+1) (by rfl) (set8_block HKV4.out _ _ _ _ _ _ _ _)
   ·go_wp2_with fail
    refine HR3.out.mono ?_
    rintro e w4 ⟨rfl,hb4⟩
    have HB4:=Lib.hid (bel_both HB3.out hb4)
    have HF4:=Lib.hid (HF.out.below HB4.out)
    have HP4:=Lib.hid (HF4.out.put hlt)
    have HB5:=Lib.hid (HF4.out.bel (HBL.out.trans (HB4.out.mono (Nat.le_trans (by have:=HW0.out.1;omega) HBL.out.size))) m (.int .i64 z))
    have hez:zB q l n m=z:=HRZ.out
    rw [hez] at HP4
    have hc3:=HF4.out.cell hlt
    have hz3:=HF4.out.frozen m
    clear hb4 hez
    go_wp2
    go_roundw
    case rel=>exact ⟨m+1,by omega,by go_num,HP4.out,HB5.out,fun j hj=>by
     by_cases e:j=m
     ·rw [e];exact ⟨z,HRR.out⟩
     ·exact HALL.out j (by omega)⟩
    case measure=>simp [intOf];omega
  ·obtain rfl:m=outer:=by omega
   have hnn:m=0\/n<=1048576:=by omega
   have HALLN:Hid (∀ cc,cc < m->∃ z,outZ (oneP pw q) F n 1 cc z/\zB q l n cc=z):=fun cc hcc=>by
    obtain ⟨z,hz⟩:=HALL.out cc hcc
    exact ⟨z,HRB.out cc hcc (by omega) z hz,by unfold zB;rw [hz];rfl⟩
   have HGO:Hid (∀ j,j < m->Good (zB q l n j)):=fun j hj=>by
    obtain ⟨z,hz,e⟩:=HALLN.out j hj
    rw [e];exact hz.2
   have HFO:Hid (∀ j,j < m->outF (oneP pw q) F n 1 j=fi (zB q l n j)):=fun j hj=>by
    obtain ⟨z,hz,e⟩:=HALLN.out j hj
    rw [e];exact (outI_of hz).2
   have HI:=Lib.hid (ints_any (l:=(List.range m).map fun j=>zB q l n j) (by rw [List.map_map];exact HF.out.own.reads) (by simpa using hob) (fun y hy=>by
    obtain ⟨j,hj,rfl⟩:=List.mem_map.1 hy
    exact HGO.out j (List.mem_range.1 hj)))
   clear HRB HCUT
   go_wp2_with fail
   refine HI.out.mono ?_
   rintro e w2 ⟨u,rfl,hou,hb2⟩
   rw [List.map_map] at hou
   have HB2:=Lib.hid (bel_both HBW.out hb2)
   have HK2:=Lib.hid (show w2.heap[w.heap.size+1]?=some (.cells zcells 38) by rw [hb2.block _ (lt_of_block HKV.out)];exact HKV.out)
   have HU:=Lib.hid (hou.lower (show w.heap.size+2<=wr.heap.size from lt_of_block HKV.out))
   obtain ⟨ua,un,uc,hu⟩:∃ a n c,u= .slice a n c:=by obtain ⟨a,c,e⟩:=hou.reads.len;exact ⟨a,_,c,e⟩
   subst hu
   clear hb2 hou
   have HB3:=Lib.hid (HB2.out.alloc HB2.out.size (.cells #[.int .i64 3,vnil,.int .i64 0,vnil,.slice ua un uc,vnil,vnil,vnil] 38))
   have HK3:=Lib.hid (show (w2.alloc (.cells #[.int .i64 3,vnil,.int .i64 0,vnil,.slice ua un uc,vnil,vnil,vnil] 38)).heap[w.heap.size+1]?=some (.cells zcells 38) by rw [Below.heap_alloc _ _ _ (lt_of_block HK2.out)];exact HK2.out)
   have HKV2:Hid (Keeps (fun j=>H j\/j=w.heap.size+1) (w2.alloc (.cells #[.int .i64 3,vnil,.int .i64 0,vnil,.slice ua un uc,vnil,vnil,vnil] 38)) (NumV (vecW 3 (none,0,0) 0 (none,0,0) (ua,un,uc) (none,0,0) (none,0,0) (none,0,0)) 3 m (outF (oneP pw q) F n 1))) :=
    ((HU.out.keepsH (fun j e=>by rcases e with e | e;have:=HH.out j e;omega;omega)).imp fun W' h2=>(numV_ints ⟨⟨_,rfl,h2⟩,HGO.out⟩).congr HFO.out).step (bel1 w2 _)
   have HS3:=Lib.hid (squeeze_num (fun j=>H j\/j=w.heap.size+1) 3 (none,0,0) 0 (none,0,0) (ua,un,uc) (none,0,0) (none,0,0) (none,0,0) m (outF (oneP pw q) F n 1) _ (fun j e=>by
    have h1:=HB3.out.size
    have h2:=lt_of_block HK3.out
    rcases e with e | e
    ·have:=HH.out j e;omega
    ·omega) hob HKV2.out)
   go_wp2_with fail
   refine HS3.out.mono ?_
   rintro e w4 ⟨k4,b4,bn4,s4,i4,f4,c4,x4,rfl,hk4,hb4⟩
   have HB4:=Lib.hid (bel_both HB3.out hb4)
   have HK4:=Lib.hid (show w4.heap[w.heap.size+1]?=some (.cells zcells 38) by rw [hb4.block _ (lt_of_block HK3.out)];exact HK3.out)
   have HKE:=Lib.hid hk4
   clear hb4 hk4
   obtain ⟨⟨h0,h1,h2,h3,h4,h5,h6,h7⟩,hz⟩:=boxed_of HK4.out
   go_wp2
   refine bodyPost_ret (v := .tuple #[vecW k4 b4 bn4 s4 i4 f4 c4 x4,.bool true]) ?_ rfl (.inl ⟨fun cc hcc=>by obtain ⟨z,hz,_⟩:=HALLN.out cc hcc;exact ⟨_,hz.1⟩,k4,b4,bn4,s4,i4,f4,c4,x4,rfl,(HKE.out.set8 (.inr rfl) _ _ _ _ _ _ _ _).sub (fun _ _ e => .inl e),below_set8 HB4.out (Nat.le_succ _) _ _ _ _ _ _ _ _⟩)
   exact ret_vec2 (fn:=Tryz.f165) (p:=8) (u:=9) rfl _ _ (w.heap.size+1) (by rfl) (set8_block HK4.out _ _ _ _ _ _ _ _)
theorem wholes_bits (b:Value) (bn:Int) (s i f c x:Value) (n:Nat) (l:Nat->Int) (w:World) (hn:n<=1000000)
  (hlen:∀ w',Below w.heap.size w w'->Calls Tryz.prog 74 #[vecV 1 b bn s i f c x] w' fun e w2=>e= .returned (.int .i64 n)/\Below w'.heap.size w' w2)
  (hwh:∀ w',Below w.heap.size w w'->∀ j,j < n->Calls Tryz.prog 142 #[vecV 1 b bn s i f c x,.int .i64 (j:Nat)] w' fun e w2=>e= .returned (.tuple #[.int .i64 (l j),.bool true])/\Below w'.heap.size w' w2) :
  Calls Tryz.prog 166 #[vecV 1 b bn s i f c x] w fun e w'=>∃ g,e= .returned (.tuple #[.slice (some ⟨g,0,none⟩) n n,.bool true])/\Own1 w' w.heap.size 2 (.slice (some ⟨g,0,none⟩) n n) ((List.range n).map fun j => .int .i64 (l j))/\Below w.heap.size w w':=by
 have HLN:=Lib.hid hlen
 have HW:=Lib.hid hwh
 have hmk:=run_make_row' (P:=Tryz.prog) 33 2 (.int .i64 0) 8 Tryz.underlying33 info_i64 rfl .i64 .i64 n (by omega) (by omega)
 clear hlen hwh
 go_enter Tryz.func166,Tryz.ntmps166
 go_wp2_with fail
 refine (HLN.out _ (bel1 w _)).mono ?_
 rintro e w1 ⟨rfl,hb1⟩
 have HB1:=Lib.hid (bel_both (bel1 w _) hb1)
 have HX1:=Lib.hid ((boxed_new w 38 1 b bn s i f c x).below hb1)
 clear hb1
 have HGN:Hid (w1.heap.size≠w.heap.size):=by have h1:=HX1.out.lt;show _≠_;omega
 have HF0:=Lib.hid (Fill.made w1 w.heap.size HB1.out.size 2 (fun j => .int .i64 (l j)) (.int .i64 0) n (by unfold maxLen;omega))
 have HBM:=Lib.hid (HB1.out.alloc HB1.out.size (.cells (madeCells #[.int .i64 0] n) 2))
 have HXM:=Lib.hid (HX1.out.below (bel1 w1 (.cells (madeCells #[.int .i64 0] n) 2)))
 go_wp2_with fail
 go_loopw [21] (fun j wr=>∃ m:Nat,m<=n/\j= .int .i64 m/\Fill wr w.heap.size w1.heap.size 2 (fun j => .int .i64 (l j)) (.int .i64 0) n m/\Below w.heap.size w wr/\Boxed wr w.heap.size 1 b bn s i f c x) (fun j _=>n - (intOf j).toNat)
 case atStart=>exact ⟨0,Nat.zero_le _,rfl,HF0.out,HBM.out,HXM.out⟩
 case round =>
  obtain ⟨m,hm,rfl,hf,hbl,hx⟩:=hrel
  have HF:=Lib.hid hf
  have HBL:=Lib.hid hbl
  have HX:=Lib.hid hx
  clear hf hbl
  by_cases hlt:m < n
  ·obtain ⟨h0,h1,h2,h3,h4,h5,h6,h7⟩:=hx
   go_wp2_with fail
   refine (HW.out _ HBL.out m hlt).mono ?_
   rintro e w3 ⟨rfl,hb3⟩
   have HF3:=Lib.hid (HF.out.below hb3)
   have HP3:=Lib.hid (HF3.out.put hlt)
   have HB3:=Lib.hid (HF3.out.bel (bel_both HBL.out hb3) m (.int .i64 (l m)))
   have HX3:=Lib.hid ((HX.out.below hb3).set (p:=⟨w1.heap.size,m,none⟩) HGN.out (.int .i64 (l m)))
   have hc3:=HF3.out.cell hlt
   have hz3:=HF3.out.frozen m
   clear hb3 h0 h1 h2 h3 h4 h5 h6 h7
   generalize l m=z at *
   go_wp2
   go_roundw
   case rel=>exact ⟨m+1,by omega,by go_num,HP3.out,HB3.out,HX3.out⟩
   case measure=>simp [intOf];omega
  ·obtain rfl:m=n:=by omega
   clear hx
   go_wp2
   go_ret2
   exact ⟨_,rfl,HF.out.own,HBL.out⟩
theorem wholes_3 (b:Value) (bn:Int) (s i f c x:Value) (xs:List Value) (w:World) (hr:Reads1 w i xs) (hl:xs.length<=1000000) (h1:∀ u∈xs,u.oneCell'=true) :
  Calls Tryz.prog 166 #[vecV 3 b bn s i f c x] w fun e w'=>∃ v,e= .returned (.tuple #[v,.bool true])/\Own1 w' w.heap.size 2 v xs/\Below w.heap.size w w':=by
 have HCL:=Lib.hid (cl64_any (hr.below (bel1 w (.cells #[.int .i64 3,b,.int .i64 bn,s,i,f,c,x] 38))) (by omega) h1)
 clear hr h1
 go_enter Tryz.func166,Tryz.ntmps166
 go_wp2_with fail
 refine HCL.out.mono ?_
 rintro e w1 ⟨v,rfl,ho,hb⟩
 have HO:=Lib.hid (Own1.lower ho (show w.heap.size<=_ by simp))
 have HB:=Lib.hid (bel_both (bel1 w _) hb)
 clear ho hb
 go_wp2
 go_ret2
 exact ⟨_,rfl,HO.out,HB.out⟩
theorem wholes_4 (b:Value) (bn:Int) (s i f c x:Value) (w:World) :
  Calls Tryz.prog 166 #[vecV 4 b bn s i f c x] w fun e w'=>e= .returned (.tuple #[.slice none 0 0,.bool false])/\Below w.heap.size w w':=by
 go_enter Tryz.func166,Tryz.ntmps166
 go_wp2
 go_ret2
 exact ⟨rfl,bel1 _ _⟩
theorem packed_yes (a:Sl) (bn:Int) (s i f c x:Value) (w:World) :
  Calls Tryz.prog 107 #[vecV 1 (.slice a.1 a.2.1 a.2.2) bn s i f c x] w fun e w'=>e= .returned (.tuple #[.agg #[.slice a.1 a.2.1 a.2.2,.int .i64 bn],.bool true])/\Below w.heap.size w w':=by
 have HK:=Lib.hid (heap_alloc_new (w.alloc (.cells #[.int .i64 1,.slice a.1 a.2.1 a.2.2,.int .i64 bn,s,i,f,c,x] 38)) (.cells #[.slice a.1 a.2.1 a.2.2,.int .i64 bn] 31))
 go_enter Tryz.func107,Tryz.ntmps107
 go_wp2
 refine bodyPost_ret (v := .tuple #[.agg #[.slice a.1 a.2.1 a.2.2,.int .i64 bn],.bool true]) ?_ rfl ⟨rfl,bel2 _ _ _⟩
 exact ret_bits2 (fn:=Tryz.f107) (p:=2) (u:=3) rfl _ _ (w.heap.size+1) (by rfl) (by have h:=HK.out;simpa using h)
theorem own_cell {w:World}{B:Nat}{e:TypeId}{g n c:Nat}{F:Nat->Value} (h:Own1 w B e (.slice (some ⟨g,0,none⟩) n c) ((List.range n).map F)) (j:Nat) (hj:j < n):w.cell? ⟨g,j,none⟩=some (F j):=by
 obtain ⟨a,c2,e1,hc⟩:=reads_at h.reads
 injection e1 with e1 _ _
 obtain ⟨b',o',e3,h3⟩:=hc j hj
 rw [e3] at e1
 injection e1 with e1
 injection e1 with ea eb _
 subst ea;subst eb
 rw [Nat.zero_add] at h3
 exact h3
structure NumX (k:Int) (b:Sl) (bn:Int) (s i f c x:Sl) (n:Nat) (F:Nat->Nat) (w:World):Prop where
 num:NumV (vecW k b bn s i f c x) k n F w
 bits:k=1->∃ l,BitsIn w (.agg #[.slice b.1 b.2.1 b.2.2,.int .i64 bn]) n l/\∀ j,j < n->F j=fi (bI (l j))
 ints:k=3->Reads1 w (.slice i.1 i.2.1 i.2.2) ((List.range n).map fun j => .int .i64 (zOf (F j)))
def WhX (n:Nat) (F:Nat->Nat) (w:World) (e:Ending) (w':World):Prop :=
 ∃ b o c,e= .returned (.tuple #[.slice (some ⟨b,o,none⟩) n c,.bool true])/\(∀ j,j < n->w'.cell? ⟨b,o+j,none⟩=some (.int .i64 (zOf (F j))))/\Below w.heap.size w w'
theorem wholes_any (k:Int) (b:Sl) (bn:Int) (s i f c x:Sl) (n:Nat) (F:Nat->Nat) (w:World) (hk:k≠4) (hn:n<=1000000) (h3:k=3->0 < n) (hN:∀ W,Below w.heap.size w W->NumX k b bn s i f c x n F W) :
  Calls Tryz.prog 166 #[vecW k b bn s i f c x] w (WhX n F w):=by
 have h0:=hN w (Below.refl _ _)
 have hz:∀ j,j < n->∃ z,Good z/\F j=fi z/\zOf (F j)=z:=fun j hj=>by
  obtain ⟨z,hg,e⟩:=h0.num.ints hk j hj
  exact ⟨z,hg,e,by rw [e];exact zOf_of (wholeP_fi hg)⟩
 rcases h0.num.kind with rfl | rfl | rfl | rfl
 ·refine (wholes_bits _ _ _ _ _ _ _ n (fun j=>zOf (F j)) w hn (fun W hw=>(hN W hw).num.len) (fun W hw j hj=>?_)).mono ?_
  ·obtain ⟨z,hg,e,e2⟩:=hz j hj
   rw [e2]
   exact (hN W hw).num.wholeI hk j hj z hg e
  ·rintro e w1 ⟨g,rfl,ho,hb⟩
   exact ⟨g,0,n,rfl,fun j hj=>by
    have h:=own_cell ho j hj
    rw [Nat.zero_add];exact h,hb⟩
 ·refine (wholes_small _ _ _ _ _ _ _ n (fun j=>zOf (F j)) w hn (fun W hw=>(hN W hw).num.len) (fun W hw j hj=>?_)).mono ?_
  ·obtain ⟨z,hg,e,e2⟩:=hz j hj
   rw [e2]
   exact (hN W hw).num.wholeI hk j hj z hg e
  ·rintro e w1 ⟨g,rfl,ho,hb⟩
   exact ⟨g,0,n,rfl,fun j hj=>by
    have h:=own_cell ho j hj
    rw [Nat.zero_add];exact h,hb⟩
 ·refine (wholes_3 _ _ _ _ _ _ _ _ w (h0.ints rfl) (by simpa using hn) (fun u hu=>by
   obtain ⟨j,_,rfl⟩:=List.mem_map.1 hu
   rfl)).mono ?_
  rintro e w1 ⟨v,rfl,ho,hb⟩
  obtain ⟨a,c2,rfl,hc⟩:=reads_at ho.reads
  obtain ⟨b2,o2,rfl,_⟩:=hc 0 (h3 rfl)
  refine ⟨b2,o2,c2,rfl,fun j hj=>?_,hb⟩
  obtain ⟨b',o',e,h⟩:=hc j hj
  injection e with e
  injection e with e1 e2 _
  subst e1;subst e2
  exact h
 ·exact absurd rfl hk
end Go.Proofs.YtakgmnafbjdccaaGreatDoor
