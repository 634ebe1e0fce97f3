/- The reference's Text at strands. Printed by gen_trxm.py. The reference's Text of good trees. Printed by gen_trxn.py. The reference's Script. Printed by .. Conditions: as each theorem says. -/
import Derived.Test.YtbakjaliponbbaaGreatDoorMg25
import Derived.Test.YtbakjaliponbbaaGreatDoorMg07
import Derived.Test.YtbakjaliponbbaaGreatDoorMg20
import Derived.Test.YtbakjaliponbbaaGreatDoorMg27
import Derived.Test.YtbakjaliponbbaaGreatDoorMg29
import Derived.Test.YtbakjaliponbbaaGreatDoorMg22
set_option maxRecDepth 100000
set_option maxHeartbeats 3200000
namespace Go.Proofs.YtbakjaliponbbaaGreatDoor
open Go Go.RowKit Go.Proofs Fl
theorem RSt.belowB {w0 wa W W':World}{q b1 B:Nat}{vs:List Value} (h:RSt w0 q b1 vs wa W) (hb:Below B W W') (h0:w0.heap.size<=B) (hq:q < B) (h1:b1 < B) (ha:wa.heap.size<=B):RSt w0 q b1 vs wa W' :=
 ⟨h.bel.trans (hb.mono h0),h.lq.trans4 (hb.mono ha),h.lo.belowB hq hb,h.ne,by have:=h.lt;have:=hb.size;omega,fun i=>by rw [hb.cell (p:=⟨b1,i,none⟩) h1];exact h.box i⟩
theorem step_pushS {ops:Array Oper}{o:Oper}{a:Act}{K:Act->World->Prop}{Q:Exit->Act->World->Prop}{E:Prop}{w:World} (hgd:o.guard=none) (s x:Operand)
  (ho:o.op= .call { callee := .builtin .append,args:=#[s,x],argTypes:=#[89,89]})
  (q B:Nat) (v:Value) (ss:List (List Int)) (hs:a.eval s=v) (hown:OwnS q w B v ss) (A:Option Addr) (n c:Nat) (t:List Int) (hr:RunQ (fun b=>b≠q/\v.ownBlock≠some b) w A n t)
  (hx:a.eval x= .slice (some ⟨w.heap.size,0,none⟩) 1 1) (hl:ss.length<=4194303) (hB:B<=w.heap.size)
  (h:∀ A' n' c' w',OwnS q w' B (.slice A' n' c') (ss++[t])->Below B w w'->K (a.put o.dst (.slice A' n' c')) w') :
  if Region.wanted o (yielded ops a.tmps)=true then Oper.wp Tryz.prog o a (w.alloc (.cells #[.slice A n c] 27)) K Q else E:=by
 obtain ⟨rows,h1,h2,h3⟩:=hown
 obtain ⟨i0,hi0,hz0,hz1,hz2⟩:=info_parts info_sl
 have hlen:(rows.map slV).length=rows.length:=List.length_map ..
 refine step_append_lies (w.alloc (.cells #[.slice A n c] 27)) hgd s x 89 ho B 27 i0 _ 1 24 Tryz.underlying89 hi0 hz0 hz1 hz2 rfl (by omega) v (rows.map slV).length _ hs
  (World.ownsRow.alloc h1 _) ⟨w.heap.size,0,none⟩ 1 1 [.slice A n c] hx (by simp) (cell_one_new w _ _) (by simp [Value.oneCell']) (by omega) (by unfold maxLen;omega) (by omega) (by simp;omega) _ rfl ?_
 intro r cap w' hown' hg hr0 _
 have hsz:w.heap.size+1<=w'.heap.size:=by have:=hg.size;simpa using this
 have keep:∀ b,b≠q/\v.ownBlock≠some b->b < w.heap.size->w'.heap[b]?=w.heap[b]?:=fun b hb hlt=>by
  rw [hg.block b (by simp;omega) (fun e=>hb.2 e.symm)]
  exact (bel1 w _).block b hlt
 have hv':∀ b,b < w.heap.size->v.ownBlock≠some b->r≠b:=fun b hb hne e=>by
  subst e
  rcases hr0 with h | h
  ·exact hne h
  ·simp at h;omega
 have ho2:Own1 w' B 27 (.slice (some ⟨r,0,none⟩) ((rows.map slV).length+1) cap) ((rows++[(A,n,c)]).map slV):=by
  unfold Own1
  have e:((rows++[(A,n,c)]).map slV).length=(rows.map slV).length+1:=by simp
  rw [e,List.map_append]
  exact hown'
 refine h (some ⟨r,0,none⟩) _ cap w' ⟨rows++[(A,n,c)],ho2,by simp [h2],fun i hi hi2=>?_⟩ ?_
 ·have hF:∀ (A0:Option Addr) (n0:Nat) (t0:List Int),RunQ (fun b=>b≠q/\v.ownBlock≠some b) w A0 n0 t0->RunQ (fun b=>b≠q/\(Value.slice (some ⟨r,0,none⟩) ((rows.map slV).length+1) cap).ownBlock≠some b) w' A0 n0 t0:=fun A0 n0 t0 h=>(h.imp (F':=fun b=>(b≠q/\v.ownBlock≠some b)/\(Value.slice (some ⟨r,0,none⟩) ((rows.map slV).length+1) cap).ownBlock≠some b) fun b hb hlt=>⟨hb,by simp [Value.ownBlock];exact hv' b hlt hb.2⟩).keep (fun b hb hlt=>keep b hb.1 hlt) |>.imp fun b hb _=>⟨hb.1.1,hb.2⟩
  by_cases hlt:i < rows.length
  ·rw [List.getElem_append_left hlt,List.getElem_append_left (by omega)]
   exact hF _ _ _ (h3 i hlt (by omega))
  ·have hi3:i=rows.length:=by simp at hi;omega
   subst hi3
   have e1:(rows++[(A,n,c)])[rows.length]=(A,n,c):=by simp
   have e2:(ss++[t])[rows.length]'(by simp;omega)=t:=by rw [List.getElem_append_right (by omega)];simp
   rw [e1,e2]
   exact hF _ _ _ hr
 ·exact ((Below.refl B w).alloc hB _).grown hg (by simp;omega) fun k hk=>(World.ownsRow.lt h1 k hk).1
def prW (tx:RTree->List Int) (ts:List RTree):Nat->List (List Int)
 | 0=>[]
 | i+1=>prW tx ts i++[wrapT (bareB (kindR (ts.getD i default))) (tx (ts.getD i default))]
theorem prW_len (tx:RTree->List Int) (ts:List RTree):∀ i,(prW tx ts i).length=i
 | 0=>rfl
 | i+1=>by rw [prW,List.length_append,prW_len tx ts i];rfl
theorem prW_acc (tx:RTree->List Int) (ts:List RTree):∀ i,accJ (prW tx ts i) (prW tx ts i).length=accW tx ts i
 | 0=>rfl
 | i+1=>by rw [prW,accJ_snoc,prW_acc tx ts i];rfl
theorem txt_7 (w0:World) (q:Nat) (_hq:w0.heap.size<=q) (nums:List Nat) (text:List Int) (name:ByteArray) (c:Int) (kids:List RTree) (tx:RTree->List Int) (hm2:kids.length<=1048576) (H:∀ i (hi:i < kids.length),TextP 40 w0 q kids[i] (tx kids[i])) (hl:(accW tx kids kids.length).length<=1099511627000) :
  TextP 40 w0 q (.mk 7 nums text name c kids) (accW tx kids kids.length):=by
 intro v0 v1 v2 v3 v4 v5 W hr hb hL
 obtain ⟨nv,tv,A,cc,m,hvs,hrn,hrt,hm,hkid⟩:=hr.open_
 simp only [List.cons.injEq,and_true] at hvs
 obtain ⟨rfl,rfl,rfl,rfl,rfl,rfl⟩:=hvs
 obtain ⟨A1,c1,n1,rfl,-,-⟩:=hrn.opn
 obtain ⟨A2,c2,n2,rfl,-,-⟩:=hrt.opn
 have hm3:m<=1048576:=by omega
 have HX:=Lib.hid (RSt.start hb hL [.int .i64 7,.slice A1 n1 c1,.slice A2 n2 c2,.string name,.int .i32 c,.slice A m cc] 29)
 have HN:=Lib.hid hm
 have HK:=Lib.hid (show KidR w0 A kids from hkid)
 have HH:=Lib.hid H
 have HLL:=Lib.hid hl
 have HQ:=Lib.hid _hq
 have HQL:Hid (q < W.heap.size):=hL.lt
 have HBZ:Hid (w0.heap.size<=W.heap.size):=hb.size
 have HPL:=Lib.hid (prW_len tx kids)
 have HPA:=Lib.hid (prW_acc tx kids)
 have HPS:Hid (∀ i,prW tx kids (i+1)=prW tx kids i++[wrapT (bareB (kindR (kids.getD i default))) (tx (kids.getD i default))]):=fun i=>rfl
 have HLE:Hid (∀ i,i<=m->(accW tx kids i).length<=(accW tx kids kids.length).length):=fun i hi=>by
  have h:=accW_le tx kids i (kids.length - i)
  rwa [show i+(kids.length - i)=kids.length by omega] at h
 have HAT:Hid (∀ i,accW tx kids (i+1)=joinP (accW tx kids i) (wrapT (bareB (kindR (kids.getD i default))) (tx (kids.getD i default)))):=fun i=>rfl
 have HP0:Hid (prW tx kids 0=[]):=rfl
 clear hr hb hL hrn hrt hkid hm hm2 H hl
 generalize prW tx kids=pr at *
 go_enter Tryz.func40,Tryz.ntmps40
 obtain ⟨x0,x1,x2,x3,x4,x5⟩:=HX.out.c6
 go_wp2
 clear x0 x1 x2 x3 x4 x5
 generalize W.alloc (.cells #[.int .i64 7,.slice A1 n1 c1,.slice A2 n2 c2,.string name,.int .i32 c,.slice A m cc] 29)=W0 at *
 have HO0:Hid (OwnS q W0 (W.heap.size+1) (.slice none 0 0) (pr 0)):=by unfold Hid;rw [HP0.out];exact OwnS.nil _ _ _
 go_loopw [5,6] (fun ov iv wr=>∃ (i:Nat) (A':Option Addr) (n' c':Nat),i<=m/\iv= .int .i64 (i:Int)/\ov= .slice A' n' c'/\Hid (OwnS q wr (W.heap.size+1) (.slice A' n' c') (pr i))/\Hid (RSt w0 q W.heap.size [.int .i64 7,.slice A1 n1 c1,.slice A2 n2 c2,.string name,.int .i32 c,.slice A m cc] W wr)) (fun _ iv _=>m - (intOf iv).toNat)
 case atStart=>exact ⟨0,none,0,0,Nat.zero_le _,rfl,rfl,HO0.out,HX.out⟩
 case round =>
  obtain ⟨i,A',n',c',hi,rfl,rfl,HO,HST⟩:=hrel
  have hpl:=HPL.out i
  by_cases him:i < m
  ·have hik:i < kids.length:=by have:=HN.out;omega
   obtain ⟨b,o,u0,u1,u2,u3,u4,u5,rfl,hr,hce⟩:=HK.out.kid i hik
   have HBR:=Lib.hid (rbare_any w0 kids[i])
   have HND:=Lib.hid (HH.out i hik)
   obtain ⟨B1,m1,d1,B2,m2,d2,B3,m3,d3,rfl,rfl,rfl,rfl,rfl,rfl,-,-⟩:=hr.vals
   have hgd:kids.getD i default=kids[i]:=by simp [List.getD,hik]
   have HE:Hid (pr (i+1)=pr i++[wrapT (bareB (kindR kids[i])) (tx kids[i])]):=by unfold Hid;rw [HPS.out i,hgd]
   have HLW:(wrapT (bareB (kindR kids[i])) (tx kids[i])).length<=1099511627000:=by
    have h1:=HLE.out (i+1) him
    rw [HAT.out i,hgd] at h1
    have h2:=(joinP_len2 (accW tx kids i) (wrapT (bareB (kindR kids[i])) (tx kids[i]))).1
    have:=HLL.out
    omega
   have HR:=Lib.hid hr
   have HCE:=Lib.hid hce
   obtain ⟨pb,hpb⟩:∃ pb,pb=bareB (kindR kids[i]):=⟨_,rfl⟩
   rw [<- hpb] at HE HBR HLW
   clear hpb hr hce hgd
   generalize kindR kids[i]=uk at *
   generalize nameR kids[i]=un at *
   generalize charR kids[i]=uc at *
   have HPD:Hid (∀ W1,RSt w0 q W.heap.size [.int .i64 7,.slice A1 n1 c1,.slice A2 n2 c2,.string name,.int .i32 c,.slice (some ⟨b,o,none⟩) m cc] W W1->Calls Tryz.prog 84 #[.agg #[.int .i64 uk,.slice B1 m1 d1,.slice B2 m2 d2,.string un,.int .i32 uc,.slice B3 m3 d3]] W1 fun e w'=>e= .returned (.bool pb)/\Below W1.heap.size W1 w'):=fun W1 h=>HBR.out _ _ _ _ _ _ W1 HR.out h.bel
   have HIR:Hid (∀ W1,RSt w0 q W.heap.size [.int .i64 7,.slice A1 n1 c1,.slice A2 n2 c2,.string name,.int .i32 c,.slice (some ⟨b,o,none⟩) m cc] W W1->Calls Tryz.prog 83 #[.agg #[.int .i64 uk,.slice B1 m1 d1,.slice B2 m2 d2,.string un,.int .i32 uc,.slice B3 m3 d3],.bool (!pb),.pointer (some ⟨q,0,none⟩)] W1 (fun e w'=>∃ Ax nx cx,e= .returned (.slice Ax nx cx)/\RunQ (fun b=>W1.heap.size<=b) w' Ax nx (wrapT pb (tx kids[i]))/\Lq q W1 w'/\RSt w0 q W.heap.size [.int .i64 7,.slice A1 n1 c1,.slice A2 n2 c2,.string name,.int .i32 c,.slice (some ⟨b,o,none⟩) m cc] W w')):=fun W1 h=>by
    have h0:=round_any w0 q HQ.out kids[i] (tx kids[i]) (!pb) HND (by rw [Bool.not_not];exact HLW) _ _ _ _ _ _ W1 HR.out h.bel h.lo
    rw [Bool.not_not] at h0
    refine h0.mono ?_
    rintro e w1 ⟨Ax,nx,cx,he,hr1,hk1,hl1⟩
    exact ⟨Ax,nx,cx,he,hr1,hk1,h.step HQ.out hk1 hl1⟩
   have HSA:Hid (∀ W1,RSt w0 q W.heap.size [.int .i64 7,.slice A1 n1 c1,.slice A2 n2 c2,.string name,.int .i32 c,.slice (some ⟨b,o,none⟩) m cc] W W1->W1.cell? ⟨W.heap.size,5,none⟩=some (.slice (some ⟨b,o,none⟩) m cc)/\W1.cell? ⟨b,o+i*6,none⟩=some (.int .i64 uk)/\W1.cell? ⟨b,o+i*6+1,none⟩=some (.slice B1 m1 d1)/\W1.cell? ⟨b,o+i*6+2,none⟩=some (.slice B2 m2 d2)/\W1.cell? ⟨b,o+i*6+3,none⟩=some (.string un)/\W1.cell? ⟨b,o+i*6+4,none⟩=some (.int .i32 uc)/\W1.cell? ⟨b,o+i*6+5,none⟩=some (.slice B3 m3 d3)):=fun W1 h=>⟨h.c6.2.2.2.2.2,(HCE.out W1 h.bel).1,(HCE.out W1 h.bel).2.1,(HCE.out W1 h.bel).2.2.1,(HCE.out W1 h.bel).2.2.2.1,(HCE.out W1 h.bel).2.2.2.2.1,(HCE.out W1 h.bel).2.2.2.2.2⟩
   have hd0:=HST.out.below (Below.refl _ wr).drew
   have hs1:=HSA.out _ hd0
   have HOD:=Lib.hid (HO.out.lq (Nat.lt_succ_of_lt HQL.out) (.of (Below.refl _ wr).drew))
   have hpl2:(pr i).length<=4194303:=by omega
   have him2:(i:Int) < (m:Int):=by omega
   have hsl:(RSt w0 q W.heap.size [.int .i64 7,.slice A1 n1 c1,.slice A2 n2 c2,.string name,.int .i32 c,.slice (some ⟨b,o,none⟩) m cc] W wr):=HST.out
   obtain ⟨x0,y0,y1,y2,y3,y4,y5⟩:=HSA.out _ hsl
   generalize hxs:tx kids[i]=xs at *
   clear HBR HND HLW HR HCE hsl hxs
   cases pb
   ·go_wp2_with fail
    refine wp_region_noPanic ?_
    refine wp_region_held_drew (S:=fun W1=>W1.cell? ⟨W.heap.size,5,none⟩=some (.slice (some ⟨b,o,none⟩) m cc)/\W1.cell? ⟨b,o+i*6,none⟩=some (.int .i64 uk)/\W1.cell? ⟨b,o+i*6+1,none⟩=some (.slice B1 m1 d1)/\W1.cell? ⟨b,o+i*6+2,none⟩=some (.slice B2 m2 d2)/\W1.cell? ⟨b,o+i*6+3,none⟩=some (.string un)/\W1.cell? ⟨b,o+i*6+4,none⟩=some (.int .i32 uc)/\W1.cell? ⟨b,o+i*6+5,none⟩=some (.slice B3 m3 d3)) (by kernel_rfl) (by exact hs1) (fun hHeld=>?_)
    refine wpAnyH_take (i:=0) (v:=?av1) rfl (by kernel_rfl) (by kernel_rfl) (by kernel_rfl) (fun _ _ _ h=>h) (Or.inl ⟨by rfl,?ay1⟩) (by assumption) ?as1
    case ay1=>(intro w hSw;(try dsimp only at hSw);go_simp;try with_reducible rfl)
    refine wpAnyH_take (i:=1) (v:=?av2) rfl (by kernel_rfl) (by kernel_rfl) (by kernel_rfl) (fun _ _ _ h=>h) (Or.inl ⟨by rfl,?ay2⟩) (by assumption) ?as2
    case ay2=>(intro w hSw;(try dsimp only at hSw);go_simp;try with_reducible rfl)
    refine wpAnyH_take (i:=2) (v:=?av3) rfl (by kernel_rfl) (by kernel_rfl) (by kernel_rfl) (fun _ _ _ h=>h) (Or.inl ⟨by rfl,?ay3⟩) (by assumption) ?as3
    case ay3=>(intro w hSw;(try dsimp only at hSw);go_simp;try with_reducible rfl)
    refine wpAnyH_take (i:=3) (v:=?av4) rfl (by kernel_rfl) (by kernel_rfl) (by kernel_rfl) (fun _ _ _ h=>h) (Or.inl ⟨by rfl,?ay4⟩) (by assumption) ?as4
    case ay4=>(intro w hSw;(try dsimp only at hSw);go_simp;try with_reducible rfl)
    refine wpAnyH_take (i:=4) (v:=?av5) rfl (by kernel_rfl) (by kernel_rfl) (by kernel_rfl) (fun _ _ _ h=>h) (Or.inl ⟨by rfl,?ay5⟩) (by assumption) ?as5
    case ay5=>(intro w hSw;(try dsimp only at hSw);go_simp;try with_reducible rfl)
    refine wpAnyH_take (i:=5) (v:=?av6) rfl (by kernel_rfl) (by kernel_rfl) (by kernel_rfl) (fun _ _ _ h=>h) (Or.inl ⟨by rfl,?ay6⟩) (by assumption) ?as6
    case ay6=>(intro w hSw;(try dsimp only at hSw);go_simp;try with_reducible rfl)
    refine wpAnyH_take (i:=6) (v:=?av7) rfl (by kernel_rfl) (by kernel_rfl) (by kernel_rfl) (fun _ _ _ h=>h) (Or.inl ⟨by rfl,?ay7⟩) (by assumption) ?as7
    case ay7=>(intro w hSw;(try dsimp only at hSw);go_simp;try with_reducible rfl)
    refine wpAnyH_take (i:=7) (v:=?av8) rfl (by kernel_rfl) (by kernel_rfl) (by kernel_rfl) (fun _ _ _ h=>h) (Or.inl ⟨by rfl,?ay8⟩) (by assumption) ?as8
    case ay8=>(intro w hSw;(try dsimp only at hSw);go_simp;try with_reducible rfl)
    refine wpAnyH_take (i:=8) (v:=?av9) rfl (by kernel_rfl) (by kernel_rfl) (by kernel_rfl) (fun _ _ _ h=>h) (Or.inl ⟨by rfl,?ay9⟩) (by assumption) ?as9
    case ay9=>(intro w hSw;(try dsimp only at hSw);go_simp;try with_reducible rfl)
    refine wpAnyH_take (i:=9) (v:=?av10) rfl (by kernel_rfl) (by kernel_rfl) (by kernel_rfl) (fun _ _ _ h=>h) (Or.inl ⟨by rfl,?ay10⟩) (by assumption) ?as10
    case ay10=>(intro w hSw;(try dsimp only at hSw);go_simp;try with_reducible rfl)
    refine wpAnyH_take (i:=10) (v:=?av11) rfl (by kernel_rfl) (by kernel_rfl) (by kernel_rfl) (fun _ _ _ h=>h) (Or.inl ⟨by rfl,?ay11⟩) (by assumption) ?as11
    case ay11=>(intro w hSw;(try dsimp only at hSw);go_simp;try with_reducible rfl)
    refine wpAnyH_take (i:=13) (v:=?av12) rfl (by kernel_rfl) (by kernel_rfl) (by kernel_rfl) (fun _ _ _ h=>h) (Or.inl ⟨by rfl,?ay12⟩) (by assumption) ?as12
    case ay12=>(intro w hSw;(try dsimp only at hSw);go_simp;try with_reducible rfl)
    refine wpAnyH_ready (rs:=[11]) (by kernel_rfl) (by simp) ?_
    refine AllReadyH.cons rfl (fun K hK=>?_) AllReadyH.nil
    go_simp
    (go_at_call 84;(with_reducible refine (HPD.out _ hd0).mono ?_);rintro e w49 ⟨rfl,hb49⟩;have hst49:=hd0.below hb49;have hs49:=HSA.out _ hst49;have HO49:=Lib.hid (HOD.out.lq (Nat.lt_succ_of_lt HQL.out) (.of hb49));dsimp only)
    refine hK.out _ _ (by first | assumption | exact hs1 | exact HSA.out _ (RSt.below (by assumption) (bel1 _ _))) (fun hHeld=>?_)
    clear hK K
    refine wpAnyH_take (i:=12) (v:=?av13) rfl (by kernel_rfl) (by kernel_rfl) (by kernel_rfl) (fun _ _ _ h=>h) (Or.inl ⟨by rfl,?ay13⟩) (by assumption) ?as13
    case ay13=>(intro w hSw;(try dsimp only at hSw);go_simp;try with_reducible rfl)
    refine wpAnyH_ready (rs:=[14]) (by kernel_rfl) (by simp) ?_
    refine AllReadyH.cons rfl (fun K hK=>?_) AllReadyH.nil
    go_simp
    (go_at_call 83;refine (HIR.out _ hst49).mono ?_;rintro e w50 ⟨A50,n50,c50,rfl,hr50,hq50,hst50⟩;have hs50:=HSA.out _ hst50;have HO50:=Lib.hid (HO49.out.lq (Nat.lt_succ_of_lt HQL.out) hq50);have HR50:=Lib.hid (RtQ.own hr50 hst49.lo HO49.out);dsimp only)
    refine hK.out _ _ (by first | assumption | exact hs1 | exact HSA.out _ (RSt.below (by assumption) (bel1 _ _))) (fun hHeld=>?_)
    clear hK K
    refine wpAnyH_ready (rs:=[15]) (by kernel_rfl) (by simp) ?_
    refine AllReadyH.cons rfl (fun K hK=>?_) AllReadyH.nil
    go_simp
    refine hK.out _ _ (by first | assumption | exact hs1 | exact HSA.out _ (RSt.below (by assumption) (bel1 _ _))) (fun hHeld=>?_)
    clear hK K
    refine wpAnyH_ready (rs:=[16]) (by kernel_rfl) (by simp) ?_
    refine AllReadyH.cons rfl (fun K hK=>?_) AllReadyH.nil
    (skip;refine step_pushS rfl (.tmp 46) (.tmp 61) rfl q (W.heap.size+1) _ (pr i) (by rfl) HO50.out A50 n50 c50 _ HR50.out (by rfl) hpl2 (by have:=hst50.lt;omega) ?_;intro A60 n60 c60 w60 ho60 hb60;have HO60:=Lib.hid ho60;have hst60:=hst50.belowB hb60 (by have:=HBZ.out;omega) (by have:=HQL.out;omega) (by omega) (by omega);have hs60:=HSA.out _ hst60)
    refine hK.out _ _ (by first | assumption | exact hs1 | exact HSA.out _ (RSt.below (by assumption) (bel1 _ _))) (fun hHeld=>?_)
    clear hK K
    refine wpAnyH_ready (rs:=[17]) (by kernel_rfl) (by simp) ?_
    refine AllReadyH.cons rfl (fun K hK=>?_) AllReadyH.nil
    go_simp
    refine hK.out _ _ (by first | assumption | exact hs1 | exact HSA.out _ (RSt.below (by assumption) (bel1 _ _))) (fun hHeld=>?_)
    clear hK K
    refine wpAnyH_done (by kernel_rfl) ?_ _
    refine NoPanic.normal ?_
    have HO9:Hid (OwnS q w60 (W.heap.size+1) (.slice A60 n60 c60) (pr (i+1))):=by unfold Hid;rw [HE.out];exact HO60.out
    have HS9:=Lib.hid hst60
    clear hst60 hst50 hst49 hd0 hs60
    go_wp2
    go_roundw
    case rel=>exact ⟨i+1,A60,n60,c60,by omega,by go_num,rfl,HO9.out,HS9.out⟩
    case measure=>simp [intOf];omega
   ·go_wp2_with fail
    refine wp_region_noPanic ?_
    refine wp_region_held_drew (S:=fun W1=>W1.cell? ⟨W.heap.size,5,none⟩=some (.slice (some ⟨b,o,none⟩) m cc)/\W1.cell? ⟨b,o+i*6,none⟩=some (.int .i64 uk)/\W1.cell? ⟨b,o+i*6+1,none⟩=some (.slice B1 m1 d1)/\W1.cell? ⟨b,o+i*6+2,none⟩=some (.slice B2 m2 d2)/\W1.cell? ⟨b,o+i*6+3,none⟩=some (.string un)/\W1.cell? ⟨b,o+i*6+4,none⟩=some (.int .i32 uc)/\W1.cell? ⟨b,o+i*6+5,none⟩=some (.slice B3 m3 d3)) (by kernel_rfl) (by exact hs1) (fun hHeld=>?_)
    refine wpAnyH_take (i:=0) (v:=?av14) rfl (by kernel_rfl) (by kernel_rfl) (by kernel_rfl) (fun _ _ _ h=>h) (Or.inl ⟨by rfl,?ay14⟩) (by assumption) ?as14
    case ay14=>(intro w hSw;(try dsimp only at hSw);go_simp;try with_reducible rfl)
    refine wpAnyH_take (i:=1) (v:=?av15) rfl (by kernel_rfl) (by kernel_rfl) (by kernel_rfl) (fun _ _ _ h=>h) (Or.inl ⟨by rfl,?ay15⟩) (by assumption) ?as15
    case ay15=>(intro w hSw;(try dsimp only at hSw);go_simp;try with_reducible rfl)
    refine wpAnyH_take (i:=2) (v:=?av16) rfl (by kernel_rfl) (by kernel_rfl) (by kernel_rfl) (fun _ _ _ h=>h) (Or.inl ⟨by rfl,?ay16⟩) (by assumption) ?as16
    case ay16=>(intro w hSw;(try dsimp only at hSw);go_simp;try with_reducible rfl)
    refine wpAnyH_take (i:=3) (v:=?av17) rfl (by kernel_rfl) (by kernel_rfl) (by kernel_rfl) (fun _ _ _ h=>h) (Or.inl ⟨by rfl,?ay17⟩) (by assumption) ?as17
    case ay17=>(intro w hSw;(try dsimp only at hSw);go_simp;try with_reducible rfl)
    refine wpAnyH_take (i:=4) (v:=?av18) rfl (by kernel_rfl) (by kernel_rfl) (by kernel_rfl) (fun _ _ _ h=>h) (Or.inl ⟨by rfl,?ay18⟩) (by assumption) ?as18
    case ay18=>(intro w hSw;(try dsimp only at hSw);go_simp;try with_reducible rfl)
    refine wpAnyH_take (i:=5) (v:=?av19) rfl (by kernel_rfl) (by kernel_rfl) (by kernel_rfl) (fun _ _ _ h=>h) (Or.inl ⟨by rfl,?ay19⟩) (by assumption) ?as19
    case ay19=>(intro w hSw;(try dsimp only at hSw);go_simp;try with_reducible rfl)
    refine wpAnyH_take (i:=6) (v:=?av20) rfl (by kernel_rfl) (by kernel_rfl) (by kernel_rfl) (fun _ _ _ h=>h) (Or.inl ⟨by rfl,?ay20⟩) (by assumption) ?as20
    case ay20=>(intro w hSw;(try dsimp only at hSw);go_simp;try with_reducible rfl)
    refine wpAnyH_take (i:=7) (v:=?av21) rfl (by kernel_rfl) (by kernel_rfl) (by kernel_rfl) (fun _ _ _ h=>h) (Or.inl ⟨by rfl,?ay21⟩) (by assumption) ?as21
    case ay21=>(intro w hSw;(try dsimp only at hSw);go_simp;try with_reducible rfl)
    refine wpAnyH_take (i:=8) (v:=?av22) rfl (by kernel_rfl) (by kernel_rfl) (by kernel_rfl) (fun _ _ _ h=>h) (Or.inl ⟨by rfl,?ay22⟩) (by assumption) ?as22
    case ay22=>(intro w hSw;(try dsimp only at hSw);go_simp;try with_reducible rfl)
    refine wpAnyH_take (i:=9) (v:=?av23) rfl (by kernel_rfl) (by kernel_rfl) (by kernel_rfl) (fun _ _ _ h=>h) (Or.inl ⟨by rfl,?ay23⟩) (by assumption) ?as23
    case ay23=>(intro w hSw;(try dsimp only at hSw);go_simp;try with_reducible rfl)
    refine wpAnyH_take (i:=10) (v:=?av24) rfl (by kernel_rfl) (by kernel_rfl) (by kernel_rfl) (fun _ _ _ h=>h) (Or.inl ⟨by rfl,?ay24⟩) (by assumption) ?as24
    case ay24=>(intro w hSw;(try dsimp only at hSw);go_simp;try with_reducible rfl)
    refine wpAnyH_take (i:=13) (v:=?av25) rfl (by kernel_rfl) (by kernel_rfl) (by kernel_rfl) (fun _ _ _ h=>h) (Or.inl ⟨by rfl,?ay25⟩) (by assumption) ?as25
    case ay25=>(intro w hSw;(try dsimp only at hSw);go_simp;try with_reducible rfl)
    refine wpAnyH_ready (rs:=[11]) (by kernel_rfl) (by simp) ?_
    refine AllReadyH.cons rfl (fun K hK=>?_) AllReadyH.nil
    go_simp
    (go_at_call 84;(with_reducible refine (HPD.out _ hd0).mono ?_);rintro e w49 ⟨rfl,hb49⟩;have hst49:=hd0.below hb49;have hs49:=HSA.out _ hst49;have HO49:=Lib.hid (HOD.out.lq (Nat.lt_succ_of_lt HQL.out) (.of hb49));dsimp only)
    refine hK.out _ _ (by first | assumption | exact hs1 | exact HSA.out _ (RSt.below (by assumption) (bel1 _ _))) (fun hHeld=>?_)
    clear hK K
    refine wpAnyH_take (i:=12) (v:=?av26) rfl (by kernel_rfl) (by kernel_rfl) (by kernel_rfl) (fun _ _ _ h=>h) (Or.inl ⟨by rfl,?ay26⟩) (by assumption) ?as26
    case ay26=>(intro w hSw;(try dsimp only at hSw);go_simp;try with_reducible rfl)
    refine wpAnyH_ready (rs:=[14]) (by kernel_rfl) (by simp) ?_
    refine AllReadyH.cons rfl (fun K hK=>?_) AllReadyH.nil
    go_simp
    (go_at_call 83;refine (HIR.out _ hst49).mono ?_;rintro e w50 ⟨A50,n50,c50,rfl,hr50,hq50,hst50⟩;have hs50:=HSA.out _ hst50;have HO50:=Lib.hid (HO49.out.lq (Nat.lt_succ_of_lt HQL.out) hq50);have HR50:=Lib.hid (RtQ.own hr50 hst49.lo HO49.out);dsimp only)
    refine hK.out _ _ (by first | assumption | exact hs1 | exact HSA.out _ (RSt.below (by assumption) (bel1 _ _))) (fun hHeld=>?_)
    clear hK K
    refine wpAnyH_ready (rs:=[15]) (by kernel_rfl) (by simp) ?_
    refine AllReadyH.cons rfl (fun K hK=>?_) AllReadyH.nil
    go_simp
    refine hK.out _ _ (by first | assumption | exact hs1 | exact HSA.out _ (RSt.below (by assumption) (bel1 _ _))) (fun hHeld=>?_)
    clear hK K
    refine wpAnyH_ready (rs:=[16]) (by kernel_rfl) (by simp) ?_
    refine AllReadyH.cons rfl (fun K hK=>?_) AllReadyH.nil
    (skip;refine step_pushS rfl (.tmp 46) (.tmp 61) rfl q (W.heap.size+1) _ (pr i) (by rfl) HO50.out A50 n50 c50 _ HR50.out (by rfl) hpl2 (by have:=hst50.lt;omega) ?_;intro A60 n60 c60 w60 ho60 hb60;have HO60:=Lib.hid ho60;have hst60:=hst50.belowB hb60 (by have:=HBZ.out;omega) (by have:=HQL.out;omega) (by omega) (by omega);have hs60:=HSA.out _ hst60)
    refine hK.out _ _ (by first | assumption | exact hs1 | exact HSA.out _ (RSt.below (by assumption) (bel1 _ _))) (fun hHeld=>?_)
    clear hK K
    refine wpAnyH_ready (rs:=[17]) (by kernel_rfl) (by simp) ?_
    refine AllReadyH.cons rfl (fun K hK=>?_) AllReadyH.nil
    go_simp
    refine hK.out _ _ (by first | assumption | exact hs1 | exact HSA.out _ (RSt.below (by assumption) (bel1 _ _))) (fun hHeld=>?_)
    clear hK K
    refine wpAnyH_done (by kernel_rfl) ?_ _
    refine NoPanic.normal ?_
    have HO9:Hid (OwnS q w60 (W.heap.size+1) (.slice A60 n60 c60) (pr (i+1))):=by unfold Hid;rw [HE.out];exact HO60.out
    have HS9:=Lib.hid hst60
    clear hst60 hst50 hst49 hd0 hs60
    go_wp2
    go_roundw
    case rel=>exact ⟨i+1,A60,n60,c60,by omega,by go_num,rfl,HO9.out,HS9.out⟩
    case measure=>simp [intOf];omega
  ·have hin:i=kids.length:=by have:=HN.out;omega
   have hrw:=HO.out.rows
   have HF:Hid (accJ (pr i) (pr i).length=accW tx kids kids.length):=by unfold Hid;rw [HPA.out i,hin]
   have HAL:=Lib.hid (all_q (cc:=c') hrw (by have h:=hrw.1;omega) HST.out.lo (by rw [HF.out];exact HLL.out))
   clear hrw
   obtain ⟨x0,x1,x2,x3,x4,x5⟩:=HST.out.c6
   go_wp2_with fail
   (with_reducible refine HAL.out.mono ?_)
   rintro e w7 ⟨A7,n7,c7,rfl,hr7,hq7,hl7⟩
   rw [HF.out] at hr7
   have HE7:=Lib.hid (HST.out.out (c:=c7) hr7 hq7 hl7)
   clear hr7 hq7 hl7 HAL
   go_wp2
   go_ret
   exact HE7.out
theorem rslashed_text (w0:World):∀ (N:Nat) (t:RTree),GT t->sizeR t<=N->RTell 86 w0 t (slashT N t)
 | 0,t,_,h=>by have:=sizeR_pos t;omega
 | N+1,t,h,hN=>by
  have IH:=rslashed_text w0 N
  cases h with
  | k1=>exact rslashed_no w0 1 (by decide) (by decide) (by decide) _ _ _ _ _
  | k2=>exact rslashed_no w0 2 (by decide) (by decide) (by decide) _ _ _ _ _
  | k3 hk=>rcases hk with rfl | rfl <;> exact rslashed_no w0 _ (by decide) (by decide) (by decide) _ _ _ _ _
  | k4 hk =>
   rcases hk with rfl | rfl | rfl | rfl
   ·exact rslashed_no w0 4 (by decide) (by decide) (by decide) _ _ _ _ _
   ·exact rslashed_no w0 5 (by decide) (by decide) (by decide) _ _ _ _ _
   ·exact rslashed_no w0 6 (by decide) (by decide) (by decide) _ _ _ _ _
   ·exact rslashed_13 w0 _ _ _ _ _
  | k7=>exact rslashed_no w0 7 (by decide) (by decide) (by decide) _ _ _ _ _
  | k8=>exact rslashed_no w0 8 (by decide) (by decide) (by decide) _ _ _ _ _
  | k9=>exact rslashed_no w0 9 (by decide) (by decide) (by decide) _ _ _ _ _
  | k10=>exact rslashed_no w0 10 (by decide) (by decide) (by decide) _ _ _ _ _
  | k11 hk=>rcases hk with rfl | rfl <;> exact rslashed_no w0 _ (by decide) (by decide) (by decide) _ _ _ _ _
  | k12=>exact rslashed_no w0 12 (by decide) (by decide) (by decide) _ _ _ _ _
  | k15=>exact rslashed_no w0 15 (by decide) (by decide) (by decide) _ _ _ _ _
  | k16 h0=>exact rslashed_16 w0 16 (.inl rfl) _ _ _ _ _ _ _ (IH _ h0 (by rw [sizeR,sizeRs,sizeRs] at hN;omega))
  | k17 h0 h1=>exact rslashed_16 w0 17 (.inr rfl) _ _ _ _ _ _ _ (IH _ h0 (by rw [sizeR,sizeRs,sizeRs,sizeRs] at hN;omega))
  | k18=>exact rslashed_no w0 18 (by decide) (by decide) (by decide) _ _ _ _ _
  | k19=>exact rslashed_no w0 19 (by decide) (by decide) (by decide) _ _ _ _ _
  | k21=>exact rslashed_no w0 21 (by decide) (by decide) (by decide) _ _ _ _ _
theorem text_text (w0:World) (q:Nat) (hq:w0.heap.size<=q):∀ (N:Nat) (t:RTree),GT t->sizeR t<=N->measR t<=1048576->TextP 40 w0 q t (txF N t)
 | 0,t,_,h,_=>by have:=sizeR_pos t;omega
 | N+1,t,hg,hN,hM=>by
  have IH:=text_text w0 q hq N
  have hg':=hg
  cases hg' with
  | k1 hf h0 hx hl=>rw [tx_1];exact txt_1 w0 q hq _ _ _ _ _ hf h0 hx hl
  | k2 hl=>rw [tx_2];exact txt_2 w0 q hq _ _ _ _ _ hl
  | k3 hk hz hne=>rw [tx_3 hk];exact txt_name _ hk w0 q hq _ _ _ _ _ hz
  | k4 hk =>
   rcases hk with rfl | rfl | rfl | rfl
   ·rw [tx_4];exact txt_4 w0 q hq _ _ _ _ _
   ·rw [tx_5];exact txt_5 w0 q hq _ _ _ _ _
   ·rw [tx_6];exact txt_6 w0 q hq _ _ _ _ _
   ·rw [tx_13];exact txt_13 w0 q hq _ _ _ _ _
  | k7 hl h=>have hL:=tx_len (N+1) _ hg;rw [tx_7] at hL;rw [tx_7];exact txt_7 w0 q hq _ _ _ _ _ _ hl (fun i hi=>IH _ (h i hi) (by rw [sizeR] at hN;have:=sizeRs_at hi;omega) (by rw [measR] at hM;have:=measRs_at hi;omega)) (by omega)
  | k8 h0 hp hl h=>have hL:=tx_len (N+1) _ hg;rw [tx_8] at hL;rw [tx_8];exact txt_8 w0 q hq _ _ _ _ _ _ (IH _ h0 (by rw [sizeR,sizeRs] at hN;omega) (by rw [measR,measRs] at hM;omega)) _ _ hp hl (fun i hi=>IH _ (h i hi) (by rw [sizeR,sizeRs] at hN;have:=sizeRs_at hi;omega) (by rw [measR,measRs] at hM;have:=measRs_at hi;omega)) _ (rbare_any w0 _) (by omega)
  | k9 h0 h1=>have hL:=tx_len (N+1) _ hg;rw [tx_9] at hL;rw [tx_9];exact txt_9 w0 q hq _ _ _ _ _ _ (IH _ h0 (by rw [sizeR,sizeRs,sizeRs,sizeRs] at hN;omega) (by rw [measR,measRs,measRs,measRs] at hM;omega)) _ _ (IH _ h1 (by rw [sizeR,sizeRs,sizeRs,sizeRs] at hN;omega) (by rw [measR,measRs,measRs,measRs] at hM;omega)) _ (rslashed_text w0 N _ h0 (by rw [sizeR,sizeRs,sizeRs,sizeRs] at hN;omega)) (by omega)
  | k10 h0 h1 h2=>have hL:=tx_len (N+1) _ hg;rw [tx_10] at hL;rw [tx_10];exact txt_10 w0 q hq _ _ _ _ _ _ (IH _ h0 (by rw [sizeR,sizeRs,sizeRs,sizeRs,sizeRs] at hN;omega) (by rw [measR,measRs,measRs,measRs,measRs] at hM;omega)) _ _ (IH _ h1 (by rw [sizeR,sizeRs,sizeRs,sizeRs,sizeRs] at hN;omega) (by rw [measR,measRs,measRs,measRs,measRs] at hM;omega)) _ _ (IH _ h2 (by rw [sizeR,sizeRs,sizeRs,sizeRs,sizeRs] at hN;omega) (by rw [measR,measRs,measRs,measRs,measRs] at hM;omega)) (by omega)
  | k11 hk hz hne h0 =>
   have hL:=tx_len (N+1) _ hg;rw [tx_11 hk] at hL
   rw [tx_11 hk]
   rcases hk with rfl | rfl
   ·exact txt_11 w0 q hq _ _ _ _ _ _ (IH _ h0 (by rw [sizeR,sizeRs,sizeRs] at hN;omega) (by rw [measR,measRs,measRs] at hM;omega)) hz (by omega)
   ·exact txt_rest 20 (by omega) w0 q hq _ _ _ _ _ _ (rest_20 w0 q hq _ _ _ _ _ _ (IH _ h0 (by rw [sizeR,sizeRs,sizeRs] at hN;omega) (by rw [measR,measRs,measRs] at hM;omega)) hz (by omega))
  | k12 hz hne h0 hp hl h=>have hL:=tx_len (N+1) _ hg;rw [tx_12] at hL;rw [tx_12];exact txt_12 w0 q hq _ _ _ _ _ _ (IH _ h0 (by rw [sizeR,sizeRs_app,sizeRs,sizeRs] at hN;omega) (by rw [measR,measRs_app,measRs,measRs] at hM;omega)) hz _ _ hp hl (fun i hi=>IH _ (h i hi) (by rw [sizeR,sizeRs_app] at hN;have:=sizeRs_at hi;omega) (by rw [measR,measRs_app] at hM;have:=measRs_at hi;omega)) (by omega)
  | k15 hl h=>have hL:=tx_len (N+1) _ hg;rw [tx_15] at hL;rw [tx_15];exact txt_15 w0 q hq _ _ _ _ _ _ hl (fun i hi=>IH _ (h i hi) (by rw [sizeR] at hN;have:=sizeRs_at hi;omega) (by rw [measR] at hM;have:=measRs_at hi;omega)) (by omega)
  | k16 h0=>have hL:=tx_len (N+1) _ hg;rw [tx_16] at hL;rw [tx_16];exact txt_rest 16 (by omega) w0 q hq _ _ _ _ _ _ (rest_16 w0 q hq _ _ _ _ _ _ (IH _ h0 (by rw [sizeR,sizeRs,sizeRs] at hN;omega) (by rw [measR,measRs,measRs] at hM;omega)) (by omega))
  | k17 h0 h1 hk=>have hL:=tx_len (N+1) _ hg;rw [tx_17] at hL;rw [tx_17];exact txt_rest 17 (by omega) w0 q hq _ _ _ _ _ _ (rest_17 w0 q hq _ _ _ _ _ _ (IH _ h0 (by rw [sizeR,sizeRs,sizeRs,sizeRs] at hN;omega) (by rw [measR,measRs,measRs,measRs] at hM;omega)) _ _ (IH _ h1 (by rw [sizeR,sizeRs,sizeRs,sizeRs] at hN;omega) (by rw [measR,measRs,measRs,measRs] at hM;omega)) hk (by omega))
  | k18 h0 hk=>have hL:=tx_len (N+1) _ hg;rw [tx_18] at hL;rw [tx_18];exact txt_rest 18 (by omega) w0 q hq _ _ _ _ _ _ (rest_18 w0 q hq _ _ _ _ _ _ (IH _ h0 (by rw [sizeR,sizeRs,sizeRs] at hN;omega) (by rw [measR,measRs,measRs] at hM;omega)) hk (by omega))
  | k19 h0 h1=>have hL:=tx_len (N+1) _ hg;rw [tx_19] at hL;rw [tx_19];exact txt_rest 19 (by omega) w0 q hq _ _ _ _ _ _ (rest_19 w0 q hq _ _ _ _ _ _ (IH _ h0 (by rw [sizeR,sizeRs,sizeRs,sizeRs] at hN;omega) (by rw [measR,measRs,measRs,measRs] at hM;omega)) _ _ (IH _ h1 (by rw [sizeR,sizeRs,sizeRs,sizeRs] at hN;omega) (by rw [measR,measRs,measRs,measRs] at hM;omega)) (by omega))
  | k21=>rw [tx_21];exact txt_rest 21 (by omega) w0 q hq _ _ _ _ _ _ (rest_21 w0 q hq _ _ _ _ _)
def prS (tx:RTree->List Int) (ts:List RTree):Nat->List (List Int)
 | 0=>[]
 | i+1=>(if i=0 then prS tx ts i else prS tx ts i++[[8900]])++[tx (ts.getD i default)]
theorem prS_len (tx:RTree->List Int) (ts:List RTree):∀ i,(prS tx ts i).length<=2*i+1
 | 0=>by simp [prS]
 | i+1=>by
  have:=prS_len tx ts i
  rw [prS]
  split <;> simp <;> omega
theorem prS_acc (tx:RTree->List Int) (ts:List RTree):∀ i,accJ (prS tx ts i) (prS tx ts i).length=accT tx 8900 ts i
 | 0=>rfl
 | i+1=>by
  have h:=prS_acc tx ts i
  rw [prS,accJ_snoc]
  by_cases h0:i=0
  ·rw [if_pos h0,h,accT,if_pos h0,joinP_nil]
  ·rw [if_neg h0,accJ_snoc,h,accT,if_neg h0,joinP_assoc]
theorem rscript_any (w0:World) (q:Nat) (hq:w0.heap.size<=q) (tx:RTree->List Int) (ts:List RTree) (A:Option Addr) (n cc:Nat) (hn:n=ts.length) (hn2:n<=1048576) (hk:KidR w0 A ts) (H:∀ i (hi:i < ts.length),TextP 40 w0 q ts[i] (tx ts[i])) (hl:(accT tx 8900 ts ts.length).length<=1099511627000) :
  ∀ W,Below w0.heap.size w0 W->LoA W q->Calls Tryz.prog 12 #[.slice A n cc,.pointer (some ⟨q,0,none⟩)] W (RtQ q W (accT tx 8900 ts ts.length)):=by
 intro W hb hL
 have HN:=Lib.hid hn
 have HK:=Lib.hid hk
 have HH:=Lib.hid H
 have HLL:=Lib.hid hl
 have HQ:=Lib.hid hq
 have HB:=Lib.hid hb
 have HLO:=Lib.hid hL
 have HQL:=Lib.hid hL.lt
 have HPL:=Lib.hid (prS_len tx ts)
 have HPA:=Lib.hid (prS_acc tx ts)
 have HP0:Hid (prS tx ts 0=[]):=rfl
 have HPS:Hid (∀ i,prS tx ts (i+1)=(if i=0 then prS tx ts i else prS tx ts i++[[8900]])++[tx (ts.getD i default)]):=fun i=>rfl
 clear hn hk H hl hq hb hL
 generalize hpr:prS tx ts=pr at *
 clear hpr
 go_enter Tryz.func12,Tryz.ntmps12
 go_wp2
 have HO1:Hid (OwnS q W W.heap.size (.slice none 0 0) (pr 0)):=by unfold Hid;rw [HP0.out];exact OwnS.nil _ _ _
 have HQ1:=Lib.hid (Lq.refl q W)
 have HL1:=Lib.hid HLO.out
 go_loopw [5,6] (fun ov iv wr=>∃ (i:Nat) (A':Option Addr) (n' c':Nat),i<=n/\iv= .int .i64 (i:Int)/\ov= .slice A' n' c'/\Hid (OwnS q wr W.heap.size (.slice A' n' c') (pr i))/\Hid (Lq q W wr)/\Hid (LoA wr q)) (fun _ iv _=>n - (intOf iv).toNat)
 case atStart=>exact ⟨0,_,_,_,Nat.zero_le _,rfl,rfl,HO1.out,HQ1.out,HL1.out⟩
 case round =>
  obtain ⟨i,A',n',c',hi,rfl,rfl,HO,HQR,HLR⟩:=hrel
  have hpl:=HPL.out i
  by_cases him:i < n
  ·have hik:i < ts.length:=by have:=HN.out;omega
   obtain ⟨b,o,u0,u1,u2,u3,u4,u5,rfl,hr,hce⟩:=HK.out.kid i hik
   obtain ⟨B1,m1,d1,B2,m2,d2,B3,m3,d3,rfl,rfl,rfl,rfl,rfl,rfl,-,-⟩:=hr.vals
   have HR:=Lib.hid hr
   generalize kindR ts[i]=uk at *
   generalize nameR ts[i]=un at *
   generalize charR ts[i]=uc at *
   have hgd:ts.getD i default=ts[i]:=by simp [List.getD,hik]
   have HE:Hid (pr (i+1)=(if i=0 then pr i else pr i++[[8900]])++[tx ts[i]]):=by unfold Hid;rw [HPS.out i,hgd]
   have HBW:Hid (Below w0.heap.size w0 wr):=HB.out.trans (HQR.out.below HB.out.size HQ.out)
   have HND:=Lib.hid (HH.out i hik)
   have HCE:=Lib.hid hce
   clear hr hce hgd
   by_cases h0:i=0
   ·rw [if_pos h0] at HE
    have hce0:KidQ w0 b o (.int .i64 uk) (.slice B1 m1 d1) (.slice B2 m2 d2) (.string un) (.int .i32 uc) (.slice B3 m3 d3):=by have h:=HCE.out;rw [h0] at h;simpa using h
    obtain ⟨y0,y1,y2,y3,y4,y5⟩:=hce0 wr HBW.out
    have HT:=Lib.hid (HND.out _ _ _ _ _ _ wr HR.out HBW.out HLR.out)
    clear hce0
    go_wp2_with fail
    (with_reducible refine HT.out.mono ?_)
    rintro e w3 ⟨A3,n3,c3,rfl,hr3,hq3,hl3⟩
    have HO3:=Lib.hid (HO.out.lq HQL.out hq3)
    have HR3:=Lib.hid (RtQ.own hr3 HLR.out HO.out)
    have HQ3:=Lib.hid (HQR.out.trans hq3)
    have HL3:=Lib.hid hl3
    clear hr3 hq3 hl3 HT y0 y1 y2 y3 y4 y5
    go_wp2_with (at_builtin;refine wpList_pushS rfl (.tmp 19) (.tmp 26) rfl q W.heap.size _ (pr i) rfl HO3.out A3 n3 c3 (tx ts[i]) HR3.out rfl (by omega) HQ3.out.size ?_;intro A4 n4 c4 w4 ho4 hb4;have HO4:=Lib.hid ho4;have HQ4:=Lib.hid (HQ3.out.trans4 hb4);have HL4:=Lib.hid (HL3.out.belowB HQL.out hb4);clear ho4 hb4)
    go_roundw
    case rel=>exact ⟨i+1,_,_,_,by omega,by go_num,rfl,by unfold Hid;rw [HE.out];exact HO4.out,HQ4.out,HL4.out⟩
    case measure=>simp [intOf];omega
   ·rw [if_neg h0] at HE
    have hi0:0 < i:=by omega
    go_wp2_with fail
    (with_reducible refine (sign_any 8900 _).mono ?_)
    rintro e w2' ⟨A2,n2,c2,rfl,hr2,hb2⟩
    have HR2:=Lib.hid (RtQ.own hr2 HLR.out HO.out)
    have HO2:=Lib.hid (HO.out.lq HQL.out (.of hb2))
    have HQ2:=Lib.hid (HQR.out.trans (.of hb2))
    have HL2:=Lib.hid (HLR.out.below hb2)
    clear hr2 hb2
    go_wp2_with (at_builtin;refine wpList_pushS rfl (.tmp 15) (.tmp 17) rfl q W.heap.size _ (pr i) rfl HO2.out A2 n2 c2 [8900] HR2.out rfl (by omega) HQ2.out.size ?_;intro A4 n4 c4 w4 ho4 hb4;have HO4:=Lib.hid ho4;have HQ4:=Lib.hid (HQ2.out.trans4 hb4);have HL4:=Lib.hid (HL2.out.belowB HQL.out hb4);have HBW4:Hid (Below w0.heap.size w0 w4):=HB.out.trans (HQ4.out.below HB.out.size HQ.out);obtain ⟨y0,y1,y2,y3,y4,y5⟩:=HCE.out w4 HBW4.out;clear ho4 hb4)
    have HT:=Lib.hid (HND.out _ _ _ _ _ _ w4 HR.out HBW4.out HL4.out)
    (with_reducible refine HT.out.mono ?_)
    rintro e w3 ⟨A3,n3,c3,rfl,hr3,hq3,hl3⟩
    have HO3:=Lib.hid (HO4.out.lq HQL.out hq3)
    have HR3:=Lib.hid (RtQ.own hr3 HL4.out HO4.out)
    have HQ3:=Lib.hid (HQ4.out.trans hq3)
    have HL3:=Lib.hid hl3
    clear hr3 hq3 hl3 HT y0 y1 y2 y3 y4 y5
    go_wp2_with (at_builtin;refine wpList_pushS rfl (.tmp 19) (.tmp 26) rfl q W.heap.size _ (pr i++[[8900]]) rfl HO3.out A3 n3 c3 (tx ts[i]) HR3.out rfl (by simp;omega) HQ3.out.size ?_;intro A6 n6 c6 w6 ho6 hb6;have HO6:=Lib.hid ho6;have HQ6:=Lib.hid (HQ3.out.trans4 hb6);have HL6:=Lib.hid (HL3.out.belowB HQL.out hb6);clear ho6 hb6)
    go_roundw
    case rel=>exact ⟨i+1,_,_,_,by omega,by go_num,rfl,by unfold Hid;rw [HE.out];exact HO6.out,HQ6.out,HL6.out⟩
    case measure=>simp [intOf];omega
  ·have hin:i=ts.length:=by have:=HN.out;omega
   have hrw:=HO.out.rows
   have HF:Hid (accJ (pr i) (pr i).length=accT tx 8900 ts ts.length):=by unfold Hid;rw [HPA.out i,hin]
   have HAL:=Lib.hid (all_q (cc:=c') hrw (by have h:=hrw.1;omega) HLR.out (by rw [HF.out];exact HLL.out))
   clear hrw
   go_wp2_with fail
   (with_reducible refine HAL.out.mono ?_)
   rintro e w7 ⟨A7,n7,c7,rfl,hr7,hq7,hl7⟩
   rw [HF.out] at hr7
   have HR7:Hid (RunQ (fun b=>W.heap.size<=b) w7 A7 n7 (accT tx 8900 ts ts.length)):=hr7.imp fun b hb _=>by have:=HQR.out.size;omega
   have HQ7:=Lib.hid (HQR.out.trans hq7)
   have HL7:=Lib.hid hl7
   clear hr7 hq7 hl7 HAL
   go_wp2
   go_ret
   exact ⟨A7,n7,c7,rfl,HR7.out,HQ7.out,HL7.out⟩
end Go.Proofs.YtbakjaliponbbaaGreatDoor
