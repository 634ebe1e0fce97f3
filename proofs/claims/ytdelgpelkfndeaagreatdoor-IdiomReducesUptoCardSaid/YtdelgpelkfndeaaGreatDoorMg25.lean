/- The walk of rebusref25.Together, at functions of numbers. Printed by gen_rfg.py. The walks of rebusref06.Without and rebusref25.axis, Row (along the last .. Conditions: as each theorem says. -/
import Derived.Test.YtdelgpelkfndeaaGreatDoorMgA
import Derived.Test.YtdelgpelkfndeaaGreatDoorMg24
import Derived.Test.YtdelgpelkfndeaaGreatDoorMg19
import Derived.Test.YtdelgpelkfndeaaGreatDoorMg21
import Derived.Test.YtdelgpelkfndeaaGreatDoorMg20
import Derived.Test.YtdelgpelkfndeaaGreatDoorMg08
set_option maxRecDepth 100000
set_option maxHeartbeats 4000000
namespace Go.Proofs.YtdelgpelkfndeaaGreatDoor
open Go Go.RowKit Go.Proofs Fl
structure TgS (W0 wr:World) (h x:Sl) (fo:Int) (X:Nat) (u y:Sl) (gg:Int) (W:World):Prop where
 p1:P1 W0 W h x fo
 var:W.heap[X]?=some (plO u y gg)
 bel:Below wr.heap.size wr W
 lo:W0.heap.size+2<=X
 lt:X < wr.heap.size
theorem TgS.step {W0 wr W W':World}{h x u y:Sl}{fo gg:Int}{X:Nat} (s:TgS W0 wr h x fo X u y gg W) (hb:Below W.heap.size W W'):TgS W0 wr h x fo X u y gg W':=⟨s.p1.step hb,by rw [hb.block _ (lt_blk s.var)];exact s.var,Qaa s.bel hb,s.lo,s.lt⟩
theorem TgS.dr {W0 wr W:World}{h x u y:Sl}{fo gg:Int}{X:Nat} (s:TgS W0 wr h x fo X u y gg W):TgS W0 wr h x fo X u y gg W.drew:=s.step (Below.refl _ W).drew
theorem TgS.al {W0 wr W:World}{h x u y:Sl}{fo gg:Int}{X:Nat} (s:TgS W0 wr h x fo X u y gg W) (o:Obj):TgS W0 wr h x fo X u y gg (W.alloc o):=s.step (bel1 W o)
theorem TgS.self {W0 wr W:World}{h x u y:Sl}{fo gg:Int}{X:Nat} (s:TgS W0 wr h x fo X u y gg W):TgS W0 wr h x fo X u y gg W:=s
theorem TgS.put {W0 wr W:World}{h x u y:Sl}{fo gg:Int}{X:Nat} (s:TgS W0 wr h x fo X u y gg W){b j:Nat} (hb:wr.heap.size<=b) (v:Value):TgS W0 wr h x fo X u y gg (W.setCell ⟨b,j,none⟩ v) :=
 ⟨s.p1.up ((Below.refl _ W).setCell (by show _<=b;have:=s.lo;have:=s.lt;omega) v),by rw [Below.heap_setCell _ _ _ _ (by have:=s.lt;show X≠b;omega)];exact s.var,s.bel.setCell (by show _<=b;exact hb) v,s.lo,s.lt⟩
abbrev TgK (H:Nat->Prop) (W0:World) (X:Nat):Nat->Prop:=fun b=>H b\/b=W0.heap.size+1\/b=X
abbrev TgK2 (H:Nat->Prop) (W0:World) (X:Nat) (wr W5:World):Nat->Prop:=fun b=>TgK H W0 X b\/(wr.heap.size<=b/\b < W5.heap.size)
def Qsr (H:Nat->Prop) (W0 wr:World) (h x:Sl) (fo:Int) (X:Nat) (u y:Sl) (gg:Int) (r:Int×PA) (v e:Value) (wx:World):Prop :=
 ∃ (V:Nat) (h' x':Sl) (f':Int),v= .pointer (some ⟨V,0,none⟩)/\e= .int .i64 r.1/\wr.heap.size<=V/\wx.heap[V]?=some (plO h' x' f')/\PvIf (TgK H W0 X) r h' x' f' wx/\TgS W0 wr h x fo X u y gg wx
theorem Qn1 {H:Nat->Prop}{W0 wr W5 w5:World}{h x u y h' x':Sl}{fo gg f':Int}{X:Nat}{r:Int×PA} (hp:PvIf (TgK2 H W0 X wr W5) r h' x' f' w5) (hst:TgS W0 wr h x fo X u y gg w5) :
  Qsr H W0 wr h x fo X u y gg r (.pointer (some ⟨w5.heap.size,0,none⟩)) (.int .i64 r.1) (w5.alloc (plO h' x' f')) :=
 ⟨w5.heap.size,h',x',f',rfl,rfl,hst.bel.size,heap_alloc_new w5 _,fun h0=>(PV.sub (fun _ _ e => .inl e) (hp h0)).step (bel1 w5 _),hst.al _⟩
theorem Qn2 {H:Nat->Prop}{W0 wr W5 w5:World}{h x u y h' x':Sl}{fo gg f':Int}{X Z:Nat}{r:Int×PA} (hp:PvIf (TgK2 H W0 X wr W5) r h' x' f' w5) (hst:TgS W0 wr h x fo X u y gg w5) (hz:ZO (plO nilS nilS 0) Z w5) (h5:ZO (plO nilS nilS 0) Z W5) (hZ:wr.heap.size<=Z) :
  Qsr H W0 wr h x fo X u y gg r (.pointer (some ⟨Z,0,none⟩)) (.int .i64 r.1) (set3 w5 Z (sv h') (sv x') (.int .i64 f')):=by
 have hzw:=lt_blk h5
 refine ⟨Z,h',x',f',rfl,rfl,hZ,Qae hz _ _ _,fun h0=>PV.sub (H:=fun b=>TgK H W0 X b\/b=Z) (fun _ _ e => .inl e) (PV.lat (Lat.set3 (H:=fun b=>TgK H W0 X b\/b=Z) (G:=Z) (.inr rfl) _ _ _) (PV.sub (fun b _ e=>?_) (hp h0))),(((hst.put hZ _).put hZ _).put hZ _)⟩
 rcases e with e | e
 ·exact .inl e
 ·exact .inr ⟨by omega,by omega⟩
def Qss (H:Nat->Prop) (W0:World) (h x:Sl) (fo:Int) (a:PA) (v:Value) (wx:World):Prop :=
 ∃ (X:Nat) (u y:Sl) (gg:Int),v= .pointer (some ⟨X,0,none⟩)/\W0.heap.size+2<=X/\wx.heap[X]?=some (plO u y gg)/\PV (TgK H W0 X) wx (rawP a) u y gg/\P1 W0 wx h x fo
theorem Qst {H:Nat->Prop}{w w1 W:World}{t:RP}{h x:Sl}{f:Int} (g:PV H w t h x f\/(h=nilS/\(∃ k n c,t= .mk [] [.mk k n c []] k/\k≠2)/\PV H w1 t h x f)) (hb:Below w.heap.size w W) (hb1:Below w1.heap.size w1 W):PV H W t h x f:=by
 rcases g with g | ⟨-,-,g⟩
 ·exact g.step hb
 ·exact g.step hb1
theorem P1.al {w W:World}{h x:Sl}{f:Int} (g:P1 w W h x f) (o:Obj):P1 w (W.alloc o) h x f:=g.step (bel1 W o)
theorem P1.self {w W:World}{h x:Sl}{f:Int} (g:P1 w W h x f):P1 w W h x f:=g
theorem P1.put {w W:World}{h x:Sl}{f:Int} (g:P1 w W h x f){b j:Nat} (hb:w.heap.size+2<=b) (v:Value):P1 w (W.setCell ⟨b,j,none⟩ v) h x f:=g.up ((Below.refl _ W).setCell (by show _<=b;exact hb) v)
theorem Qn3 {H:Nat->Prop}{w W0 W5 w5:World}{h x u y:Sl}{fo gg:Int}{a:PA}{Z:Nat} (hp:PV (Hole H w W5) w5 (rawP a) u y gg) (hst:P1 W0 w5 h x fo) (hz:ZO (plO nilS nilS 0) Z w5) (h5:ZO (plO nilS nilS 0) Z W5) (hw:w.heap.size<=W0.heap.size) (hZ:W0.heap.size+2<=Z):Qss H W0 h x fo a (.pointer (some ⟨Z,0,none⟩)) (set3 w5 Z (sv u) (sv y) (.int .i64 gg)):=by
 have hzw:=lt_blk h5
 refine ⟨Z,u,y,gg,rfl,hZ,Qae hz _ _ _,PV.lat (Lat.set3 (H:=TgK H W0 Z) (G:=Z) (.inr (.inr rfl)) _ _ _) (PV.sub (fun b _ e=>?_) hp),(((hst.put hZ _).put hZ _).put hZ _)⟩
 rcases e with e | e | e
 ·exact .inl e
 ·exact .inr ⟨by omega,by omega⟩
 ·exact .inr ⟨by omega,by omega⟩
theorem Qlq {H:Nat->Prop}{w W0 W5 w5:World}{h x u y:Sl}{fo gg:Int}{a:PA} (hp:PV (Hole H w W5) w5 (rawP a) u y gg) (hst:P1 W0 w5 h x fo) (h5:W0.heap.size+2<=W5.heap.size) (hw:w.heap.size<=W0.heap.size):Qss H W0 h x fo a (.pointer (some ⟨w5.heap.size,0,none⟩)) (w5.alloc (plO u y gg)):=by
 refine ⟨w5.heap.size,u,y,gg,rfl,hst.sz,heap_alloc_new w5 _,(PV.sub (fun b hb e=>?_) hp).step (bel1 w5 _),hst.step (bel1 w5 _)⟩
 rcases e with e | e | e
 ·exact .inl e
 ·exact .inr ⟨by omega,by omega⟩
 ·omega
def PvH (H:Nat->Prop) (w W0 W:World) (t:RP) (e:Ending) (w':World):Prop:=∃ h x f,e= .returned (plV h x f)/\PV (Hole H w W) w' t h x f/\W0.heap.size+2<=W.heap.size/\Below W.heap.size W w'
theorem p1_c {W0 W:World}{h x:Sl}{fo:Int}{p:Addr}{v:Value} (hc:W0.cell? p=some v) (s:P1 W0 W h x fo):(W.cell? ⟨W0.heap.size,0,none⟩=some (.slice h.1 h.2.1 h.2.2)/\W.cell? ⟨W0.heap.size,1,none⟩=some (.slice x.1 x.2.1 x.2.2)/\W.cell? ⟨W0.heap.size,2,none⟩=some (.int .i64 fo))/\W.cell? p=some v/\P1 W0 W h x fo:=⟨Qax s.one,QaB s.bel hc,s⟩
theorem Qul {W0 wr W:World}{h x u y:Sl}{fo gg:Int}{X:Nat}{p:Addr}{v:Value} (hc:W0.cell? p=some v) (s:TgS W0 wr h x fo X u y gg W):((W.cell? ⟨W0.heap.size,0,none⟩=some (.slice h.1 h.2.1 h.2.2)/\W.cell? ⟨W0.heap.size,1,none⟩=some (.slice x.1 x.2.1 x.2.2)/\W.cell? ⟨W0.heap.size,2,none⟩=some (.int .i64 fo))/\(W.cell? ⟨X,0,none⟩=some (.slice u.1 u.2.1 u.2.2)/\W.cell? ⟨X,1,none⟩=some (.slice y.1 y.2.1 y.2.2)/\W.cell? ⟨X,2,none⟩=some (.int .i64 gg)))/\W.cell? p=some v/\TgS W0 wr h x fo X u y gg W:=⟨⟨Qax s.p1.one,(block3 s.var).1⟩,QaB s.p1.bel hc,s⟩
theorem Qlr {H:Nat->Prop}{w:World}{a:PA}{h x:Sl}{fo:Int} (g:PV H w (rawP a) h x fo) (hH:∀ b,H b->b < w.heap.size) (d:Nat) (hd:0 < d) (hg:GoodA (d+1) a) (hs:SmA 1000000 a) (hl:a.len<=1000000) (f:Int) (hk:Qaz f=true) (l:List Nat) (hlt:∀ p∈l,p < a.len) (hl8:l.length<=1048576) (W0:World) (hb:Below w.heap.size w W0) (atv:Sl) (hat:Reads1 W0 (sv atv) (l.map natV)) :
  Calls Tryz.prog 126 #[.int .i64 (f+100),plV h x fo,sv atv] W0 (RtU H W0 (rowE f (l.map (Qak a)))):=by
 have hf:1<=f/\f<=24:=by rcases QcB hk with h | h | h <;> omega
 have hw:=hb.size
 have HS0:=hD (P1.new W0 h x fo)
 have HPT:=hD (fun i (hi:i < a.len) (W:World) (s:P1 W0 W h x fo)=>Qnn g i hi (by omega) W (Qaa hb s.bel) hH)
 have HPF:Hid (∀ i,i < a.len->∀ W,P1 W0 W h x fo->Calls Tryz.prog 184 #[plV h x fo,.int .i64 (i:Int)] W (PvH H w W0 W (rawP (Qak a i)))):=fun i hi W s=>(Qnn (H:=Hole H w W) (w:=W) (g.arg (Qaa hb s.bel)) i hi (by omega) W (Below.refl _ _) (fun b e=>by
  rcases e with e | e
  ·have:=hH b e;have:=(Qaa hb s.bel).size;omega
  ·exact e.2)).mono fun e w' hp=>by
   obtain ⟨h1,x1,f1,e1,hpa,hb1⟩:=hp
   exact ⟨h1,x1,f1,e1,Qst hpa hb1 (Below.refl _ _),s.sz,hb1⟩
 have HPR:Hid (∀ i,i < a.len->∀ (e:Nat) (b:PA),GoodA e b->SmA 1000000 b->∀ (X:Nat) (u y:Sl) (gg:Int) (wr w1 W:World) (h1 x1:Sl) (f1:Int),PV (TgK H W0 X) wr (rawP b) u y gg->(PV H w (rawP (Qak a i)) h1 x1 f1\/(h1=nilS/\(∃ k n c,rawP (Qak a i)= .mk [] [.mk k n c []] k/\k≠2)/\PV H w1 (rawP (Qak a i)) h1 x1 f1))->BelT w1 W->TgS W0 wr h x fo X u y gg W->Calls Tryz.prog 185 #[.int .i64 (f+100),plV h1 x1 f1,plV u y gg] W (RtU (TgK2 H W0 X wr W) W (twA f (Qak a i) b))):=fun i hi e b gb sb X u y gg wr w1 W h1 x1 f1 hpx hpa hbt hst=>by
  have hbw:=Qaa hb hst.p1.bel
  have hwz:=hbw.size
  have hx2:=hst.bel.size
  have hlo:=hst.lo
  have hlx:=hst.lt
  refine Qjh f W (by omega) (by omega) (fun b e=>?_) (Qc6 hg hd hi) gb (Qd7 (by decide) hs i (Qh6 hi)) sb (ArgOk.up (Qek hbw hbt hH (fun _ b e=>e) (fun k n c e hk=>Qg5 e hk) (fun h2=>QfH i h2) hwz hpa) (Below.refl _ _) (fun b _ e=>?_)) (.inr ((PV.sub (fun b hb e=>?_) hpx).step hst.bel))
  ·rcases e with (e | e | e) | e
   ·have:=hH b e;omega
   ·omega
   ·omega
   ·exact e.2
  ·rcases e with (e | e | e) | e
   ·exact .inl e
   ·exact .inr ⟨by omega,by omega⟩
   ·exact .inr ⟨by omega,by omega⟩
   ·exact .inr ⟨by omega,e.2⟩
  ·rcases e with e | e
   ·exact e
   ·omega
 have HG:=hD (fun (m:Nat) (hm:m < l.length) (h0:(rowE f ((l.drop m).map (Qak a))).1=0)=>(⟨QdT (f:=f) (d:=d) (l:=(l.drop m).map (Qak a)) (by simp;omega) (fun p hp=>by
   obtain ⟨i,hi,rfl⟩:=List.mem_map.1 hp
   exact Qc6 hg hd (hlt i (List.mem_of_mem_drop hi))) h0,Qgn (f:=f) (d:=d) (M:=1000000) (by decide) (l:=(l.drop m).map (Qak a)) (by simp;omega) (fun p hp=>by
   obtain ⟨i,hi,rfl⟩:=List.mem_map.1 hp
   have hi2:=hlt i (List.mem_of_mem_drop hi)
   exact ⟨Qc6 hg hd hi2,Qd7 (by decide) hs i (Qh6 hi2)⟩) h0⟩:GoodA d (rowE f ((l.drop m).map (Qak a))).2/\SmA 1000000 (rowE f ((l.drop m).map (Qak a))).2))
 have HRC:Hid (∀ m (hm:m+1 < l.length),rowE f ((l.drop m).map (Qak a))=if (rowE f ((l.drop (m+1)).map (Qak a))).1=0 then twA f (Qak a l[m]) (rowE f ((l.drop (m+1)).map (Qak a))).2 else ((rowE f ((l.drop (m+1)).map (Qak a))).1,default)):=fun m hm=>by
  rw [List.drop_eq_getElem_cons (show m < l.length by omega),List.map_cons,QdS f _ _ (by intro e;have:=congrArg List.length e;simp at this;omega)]
 have HRL:Hid (∀ m,m+1=l.length->rowE f ((l.drop m).map (Qak a))=(0,Qak a (l.getD m 0))):=fun m hm=>by
  rw [List.drop_eq_getElem_cons (show m < l.length by omega),List.drop_eq_nil_of_le (by omega),List.map_cons,List.map_nil,QeN]
  simp [List.getD,show m < l.length by omega]
 have HRS:Hid (l=[]->rowE f (l.map (Qak a))=QcO f):=fun e=>by rw [e];rfl
 have HSTA:=hD (fun W (s:P1 W0 W h x fo)=>Qih (H:=fun b=>H b\/b=W0.heap.size+1) f hk W (fun b e=>by
  have:=s.sz
  rcases e with e | e
  ·have:=hH b e;omega
  ·omega))
 obtain ⟨rr,hrr⟩:∃ rr:Nat->Int×PA,rr=fun m=>rowE f ((l.drop m).map (Qak a)):=⟨_,rfl⟩
 have HR0:Hid (rowE f (l.map (Qak a))=rr 0):=by unfold Hid;rw [hrr];rfl
 have HRS':Hid (l=[]->rr 0=QcO f):=fun e=>by rw [<- HR0.out];exact HRS.out e
 have HRC':Hid (∀ m (hm:m+1 < l.length),rr m=if (rr (m+1)).1=0 then twA f (Qak a l[m]) (rr (m+1)).2 else ((rr (m+1)).1,default)):=fun m hm=>by rw [hrr];exact HRC.out m hm
 have HRL':Hid (∀ m,m+1=l.length->rr m=(0,Qak a (l.getD m 0))):=fun m hm=>by rw [hrr];exact HRL.out m hm
 have HG':Hid (∀ m,m < l.length->(rr m).1=0->GoodA d (rr m).2/\SmA 1000000 (rr m).2):=fun m hm h0=>by rw [hrr] at h0 ⊢;exact HG.out m hm h0
 obtain ⟨A0,n0,c0,he0,hn0,hcell⟩:=Qbc hat
 obtain ⟨tA,tn,tc⟩:=atv
 injection he0 with e1 e2 e3
 subst e1;subst e2;subst e3
 dsimp only at hn0 hcell
 have HCE:=hD hcell
 have HLT:Hid (∀ i (hi:i < l.length),l[i] < a.len):=fun i hi=>hlt _ (List.getElem_mem hi)
 have htn:tn<=1048576:=by omega
 have HTN:=hD hn0
 have HHH:Hid (∀ b,H b->b < W0.heap.size):=fun b e=>by have:=hH b e;omega
 rw [HR0.out]
 clear g hH hg hs hl hlt hat hcell HG HRC HRL HRS HR0 hrr hn0 hk hb
 dsimp only [sv]
 go_enter Tryz.func126,Tryz.ntmps126
 by_cases h0:tn=0
 ·have hne:((tn:Int)==0)=true:=by rw [beq_iff_eq];omega
  have hl0:l=[]:=List.eq_nil_of_length_eq_zero (by have:=HTN.out;omega)
  rw [HRS'.out hl0]
  unfold RtU at HSTA
  subst h0
  clear HRC' HRL' HG' HPT HPF HPR HCE HLT hl0
  go_wp2_with fail
  refine (HSTA.out _ HS0.out).mono ?_
  rintro e w2 ⟨h',x',f',rfl,hp,hb⟩
  have HS2:=hD (HS0.out.step hb)
  have HP:=hD hp
  clear hb hp HSTA HS0
  generalize QcO f=r at *
  obtain ⟨⟨y0,y1,y2⟩,yz⟩:=block3 HS2.out.res
  go_wp2
  refine bodyPost_ret (v := .tuple #[plV h' x' f',.int .i64 r.1]) ?_ rfl ⟨h',x',f',rfl,fun h0=>PV.sub (fun _ _ e => .inl e) (PV.lat (Lat.set3 (H:=fun b=>H b\/b=W0.heap.size+1) (G:=W0.heap.size+1) (.inr rfl) _ _ _) (HP.out h0)),Qaf HS2.out.bel (Nat.le_add_right _ 1) _ _ _⟩
  exact Qaw (fn:=Tryz.f126) (p:=6) (u:=7) rfl _ _ (W0.heap.size+1) (by rfl) (Qae HS2.out.res _ _ _)
 ·have hne:((tn:Int)==0)=false:=by rw [beq_eq_false_iff_ne];omega
  obtain ⟨m,hmm⟩:∃ m,tn=m+1:=⟨tn - 1,by omega⟩
  have hml:m+1=l.length:=by have:=HTN.out;omega
  have hm1:m < l.length:=by omega
  obtain ⟨b0,o0,hA0,hce⟩:=HCE.out m hm1
  subst hA0
  have hlm:=HLT.out m hm1
  have hgm:l.getD m 0=l[m]:=by simp [List.getD,hm1]
  have HRM:=hD (HRL'.out m hml)
  rw [hgm] at HRM
  have HPM:=hD (fun W s=>HPF.out l[m] hlm W s)
  have hidx:(tn:Int) - 1=(m:Int):=by omega
  have hidm:(tn:Int) - 2=(m:Int) - 1:=by omega
  have hmt:(m:Int) < (tn:Int):=by omega
  have hm0:(0:Int)<=(m:Int):=by omega
  have hwm:IntKind.i64.wrap (m:Int)=(m:Int):=IntWalk.i64_in _ (by omega)
  have hwt:IntKind.i64.wrap ((tn:Int) - 1)=(m:Int):=by rw [hidx];exact hwm
  have HMM:=hD hmm
  have hce':W0.cell? ⟨b0,o0+m,none⟩=some (.int .i64 (l[m]:Int)):=hce
  unfold PvH at HPM
  generalize l[m]=pm at HRM HPM hce' hlm
  have HCM:=hD hce'
  clear hce hce' hgm h0 HSTA HRS' HPF hmm
  go_wp2_with fail
  obtain ⟨wz,hwz⟩:∃ wz,wz=(W0.alloc (plO h x fo)).alloc (plO nilS nilS 0):=⟨_,rfl⟩
  rw [<- hwz] at HS0
  have HWZ:=hD hwz
  clear hwz
  rw [<- HWZ.out]
  go_cut [8] from 9 (fun v wx=>Qss H W0 h x fo (Qak a pm) v wx)
  case first =>
   have hs0:=HS0.out.dr
   have hs00:=HS0.out
   have hzz:=HS0.out.sz
   go_region_held3 (fun W=>(W.cell? ⟨W0.heap.size,0,none⟩=some (.slice h.1 h.2.1 h.2.2)/\W.cell? ⟨W0.heap.size,1,none⟩=some (.slice x.1 x.2.1 x.2.2)/\W.cell? ⟨W0.heap.size,2,none⟩=some (.int .i64 fo))/\W.cell? ⟨b0,o0+m,none⟩=some (.int .i64 (pm:Int))/\P1 W0 W h x fo)
    (first | with_reducible assumption | (with_reducible (refine p1_c HCM.out ?_);repeat (first | with_reducible assumption | with_reducible refine P1.dr ?_ | (with_reducible refine P1.put ?_ (by first | assumption | omega | (simp;omega)) _) | with_reducible refine P1.al ?_ _)))
    (first | (go_at_call 184;(with_reducible refine (HPM.out _ ?_).mono ?_);exact P1.self (by repeat (first | with_reducible assumption | with_reducible refine P1.dr ?_ | with_reducible refine P1.al ?_ _));rintro e w1 ⟨h1,x1,f1,rfl,hpa,h5,hb1⟩;have hst1:P1 W0 w1 h x fo:=P1.step (by repeat (first | with_reducible assumption | with_reducible refine P1.dr ?_ | with_reducible refine P1.al ?_ _)) hb1;obtain ⟨hc1,hfz1⟩:=bcell2 hb1;have hz1:=hb1.size;have hs1z:=hst1.sz;have HB1:=hD hb1;have HPA:=hD hpa;clear hb1 hpa))
   all_goals
    go_wp2
    go_meet
    first
     | with_reducible exact Qlq HPA.out hst1 h5 hw
     | (with_reducible refine Qn3 HPA.out hst1 (ZO.step ?_ HB1.out) ?_ hw ?_;all_goals (first | exact hzz | omega | (repeat (first | with_reducible exact ZO.new _ _ | with_reducible refine ZO.dr ?_))))
  obtain ⟨X,u0,y0,g0,rfl,hlo,hX,hpv,hp1⟩:=hcut
  have HX0:=hD hX
  have HPV0:=hD hpv
  have HP0:=hD hp1
  clear hX hpv hp1 HPM HCM HS0 HWZ
  have HERR:Hid (∀ j,j<=m->(rr j).1≠0->(rr 0).1=(rr j).1):=fun j=>by
   induction j with
   | zero=>exact fun _ _=>rfl
   | succ j ih =>
    intro hj hne
    have h1:=HRC'.out j (by omega)
    rw [if_neg hne] at h1
    have h2:(rr j).1=(rr (j+1)).1:=by rw [h1]
    rw [<- h2] at hne ⊢
    exact ih (by omega) hne
  go_wp2
  go_loopw [9] (fun iv wr=>∃ (k:Nat) (u y:Sl) (gg:Int),k<=m/\iv= .int .i64 ((k:Int) - 1)/\(rr k).1=0/\wr.heap[X]?=some (plO u y gg)/\PV (TgK H W0 X) wr (rawP (rr k).2) u y gg/\P1 W0 wr h x fo) (fun iv _=>(intOf iv+1).toNat)
  case atStart=>exact ⟨m,u0,y0,g0,Nat.le_refl _,by first | rfl | (congr 1;omega),by rw [HRM.out],HX0.out,by rw [HRM.out];exact HPV0.out,HP0.out⟩
  case round =>
   obtain ⟨k,u,y,gg,hk,rfl,h0,hX,hpv,hp1⟩:=hrel
   have HX:=hD hX
   have HPV:=hD hpv
   have HP1:=hD hp1
   have hXl:=lt_blk hX
   clear hX hpv hp1 HX0 HPV0 HP0
   by_cases hk1:1<=k
   ·obtain ⟨j,rfl⟩:∃ j,k=j+1:=⟨k - 1,by omega⟩
    have hki:((j+1:Nat):Int) - 1=(j:Int):=by omega
    rw [hki]
    have hj0:(j:Int)>=0:=by omega
    have hjl:j < l.length:=by omega
    obtain ⟨b1,o1,hA1,hce⟩:=HCE.out j hjl
    obtain rfl:b1=b0:=by injection hA1 with hA1;injection hA1 with hA1 _;exact hA1.symm
    obtain rfl:o1=o0:=by injection hA1 with hA1;injection hA1 with _ hA1 _;exact hA1.symm
    have hlj:=HLT.out j hjl
    have HRJ:=hD (HRC'.out j (by omega))
    rw [if_pos h0] at HRJ
    obtain ⟨gb,sb⟩:=HG'.out (j+1) (by omega) h0
    have hce':W0.cell? ⟨b1,o1+j,none⟩=some (.int .i64 (l[j]:Int)):=hce
    have HPJ:=hD (fun W (s:TgS W0 wr h x fo X u y gg W)=>HPT.out l[j] hlj W s.p1)
    have HPRJ:=hD (fun w1 W h1 x1 f1=>HPR.out l[j] hlj d _ gb sb X u y gg wr w1 W h1 x1 f1 HPV.out)
    rw [<- HRJ.out] at HPRJ
    unfold PvS at HPJ
    unfold RtU at HPRJ
    have hjm:(j:Int) < (tn:Int):=by have:=HMM.out;omega
    have HERJ:=hD (HERR.out j (by omega))
    have HEQ:Hid ((rr 0).1=(rr 0).1):=rfl
    generalize hrj:rr j=rj at *
    have HRJE:=hD hrj
    generalize Qak a l[j]=pj at *
    generalize l[j]=pm9 at *
    have HCJ:=hD hce'
    have HST:Hid (TgS W0 wr h x fo X u y gg wr):=⟨HP1.out,HX.out,Below.refl _ _,hlo,hXl⟩
    clear hce hce' hA1 gb sb HRJ hrj
    go_wp2_with fail
    go_cut [10,11] from 34 to 50 (fun v e wx=>Qsr H W0 wr h x fo X u y gg rj v e wx)
    case first =>
     have hs0:=HST.out.dr
     have hs00:=HST.out
     go_region_held3 (fun W=>((W.cell? ⟨W0.heap.size,0,none⟩=some (.slice h.1 h.2.1 h.2.2)/\W.cell? ⟨W0.heap.size,1,none⟩=some (.slice x.1 x.2.1 x.2.2)/\W.cell? ⟨W0.heap.size,2,none⟩=some (.int .i64 fo))/\(W.cell? ⟨X,0,none⟩=some (.slice u.1 u.2.1 u.2.2)/\W.cell? ⟨X,1,none⟩=some (.slice y.1 y.2.1 y.2.2)/\W.cell? ⟨X,2,none⟩=some (.int .i64 gg)))/\W.cell? ⟨b1,o1+j,none⟩=some (.int .i64 (pm9:Int))/\TgS W0 wr h x fo X u y gg W)
      (first | with_reducible assumption | (with_reducible (refine Qul HCJ.out ?_);repeat (first | with_reducible assumption | with_reducible refine TgS.dr ?_ | (with_reducible refine TgS.put ?_ (by first | assumption | omega | (simp;omega)) _) | with_reducible refine TgS.al ?_ _)))
      (first
       | (go_at_call 184;(with_reducible refine (HPJ.out _ ?_).mono ?_);exact TgS.self (by repeat (first | with_reducible assumption | with_reducible refine TgS.dr ?_ | with_reducible refine TgS.al ?_ _));rintro e w1 ⟨h1,x1,f1,rfl,hpa,hb1⟩;have hst1:TgS W0 wr h x fo X u y gg w1:=TgS.step (by repeat (first | with_reducible assumption | with_reducible refine TgS.dr ?_ | with_reducible refine TgS.al ?_ _)) hb1;obtain ⟨hc1,hfz1⟩:=bcell2 hb1;have hz1:=hb1.size;have hs1z:=hst1.bel.size;(first | (have hsq1:wr.heap.size < w1.heap.size:=Nat.lt_of_lt_of_le (Qa5 _ _) hz1) | (have hsq1:wr.heap.size < w1.heap.size:=Nat.lt_of_lt_of_le (Qa6 _ _) hz1) | skip);have HB1:=hD hb1;have HPA:=hD hpa;clear hb1 hpa)
       | (go_at_call 185;(with_reducible refine (HPRJ.out w1 _ _ _ _ HPA.out ?_ ?_).mono ?_);exact BelT.self (by repeat (first | with_reducible assumption | with_reducible exact BelT.refl _ | with_reducible refine BelT.dr ?_ | with_reducible refine BelT.al ?_ _));exact TgS.self (by repeat (first | with_reducible assumption | with_reducible refine TgS.dr ?_ | with_reducible refine TgS.al ?_ _));rintro e w5 ⟨h5,x5,f5,rfl,hp5,hb5⟩;have hst5:TgS W0 wr h x fo X u y gg w5:=TgS.step (by repeat (first | with_reducible assumption | with_reducible refine TgS.dr ?_ | with_reducible refine TgS.al ?_ _)) hb5;obtain ⟨hc5,hfz5⟩:=bcell2 hb5;have hz5:=hb5.size;have hs5z:=hst5.bel.size;(first | (have hsq5:w1.heap.size < w5.heap.size:=Nat.lt_of_lt_of_le (Qa5 _ _) hz5) | (have hsq5:w1.heap.size < w5.heap.size:=Nat.lt_of_lt_of_le (Qa6 _ _) hz5) | (have hsq5:w1.heap.size<=w5.heap.size:=hz5) | skip);(first | (have hsr5:wr.heap.size < w5.heap.size:=Nat.lt_of_lt_of_le hsq1 (Nat.le_of_lt hsq5)) | (have hsr5:wr.heap.size < w5.heap.size:=Nat.lt_of_lt_of_le hsq1 hsq5) | skip);have HB5:=hD hb5;have HP5:=hD hp5;clear hb5 hp5))
     all_goals
      go_wp2
      go_meet
      first
       | with_reducible exact Qn1 HP5.out hst5
       | (with_reducible refine Qn2 HP5.out hst5 (ZO.step ?_ HB5.out) ?_ ?_;all_goals (first | with_reducible exact Nat.le_refl _ | exact hst1.bel.size | (repeat (first | with_reducible exact ZO.new _ _ | with_reducible refine ZO.dr ?_ | with_reducible refine ZO.step ?_ HB1.out))))
    obtain ⟨V,h9,x9,f9,rfl,rfl,hVl,hV,hp9,hst⟩:=hcut
    have HV:=hD hV
    have HP9:=hD hp9
    have HS9:=hD hst
    have HVL:=hD hVl
    clear hV hp9 hst HPJ HPRJ HST HPV HP1 HX hVl
    by_cases hr0:rj.1=0
    ·have ne:(rj.1 != 0)=false:=by simpa using hr0
     obtain ⟨⟨v0,v1,v2⟩,vz⟩:=block3 HV.out
     obtain ⟨⟨q0,q1,q2⟩,qz⟩:=block3 HS9.out.var
     have HXN:=hD (Qae HS9.out.var (.slice h9.1 h9.2.1 h9.2.2) (.slice x9.1 x9.2.1 x9.2.2) (.int .i64 f9))
     have HLA:=hD (PV.lat (Lat.set3 (H:=TgK H W0 X) (G:=X) (.inr (.inr rfl)) (.slice h9.1 h9.2.1 h9.2.2) (.slice x9.1 x9.2.1 x9.2.2) (.int .i64 f9)) (HP9.out hr0))
     have HP1N:=hD (((HS9.out.p1.put (j:=0) hlo (.slice h9.1 h9.2.1 h9.2.2)).put (j:=1) hlo (.slice x9.1 x9.2.1 x9.2.2)).put (j:=2) hlo (.int .i64 f9))
     go_wp2
     go_roundw
     case rel=>exact ⟨j,h9,x9,f9,by omega,rfl,by rw [HRJE.out];exact hr0,HXN.out,by rw [HRJE.out];exact HLA.out,HP1N.out⟩
     case measure=>simp [intOf]
    ·have ne:(rj.1 != 0)=true:=by simpa using hr0
     have HE0:=hD (HERJ.out hr0)
     obtain ⟨⟨z0,z1,z2⟩,zz⟩:=block3 HS9.out.p1.res
     go_wp2
     refine bodyPost_ret (v := .tuple #[plV nilS nilS 0,.int .i64 rj.1]) ?_ rfl (Qb9 HE0.out hr0 (Qaf HS9.out.p1.bel (Nat.le_add_right _ 1) _ _ _))
     exact Qaw (fn:=Tryz.f126) (p:=6) (u:=7) rfl _ _ (W0.heap.size+1) (by rfl) (Qae HS9.out.p1.res _ _ _)
   ·obtain rfl:k=0:=by omega
    have hng:¬ ((0:Nat):Int) - 1>=0:=by omega
    obtain ⟨⟨q0,q1,q2⟩,qz⟩:=block3 HX.out
    obtain ⟨⟨z0,z1,z2⟩,zz⟩:=block3 HP1.out.res
    go_wp2
    refine bodyPost_ret (v := .tuple #[plV u y gg,.int .i64 0]) ?_ rfl (Qfz h0 (PV.sub (fun _ _ e => .inl e) (PV.lat (Lat.set3 (H:=TgK H W0 X) (G:=W0.heap.size+1) (.inr (.inl rfl)) _ _ _) HPV.out)) (Qaf HP1.out.bel (Nat.le_add_right _ 1) _ _ _))
    exact Qaw (fn:=Tryz.f126) (p:=6) (u:=7) rfl _ _ (W0.heap.size+1) (by rfl) (Qae HP1.out.res _ _ _)
theorem QfJ {ops:Array Oper}{o:Oper}{a:Act}{K:Act->World->Prop}{Q:Exit->Act->World->Prop}{E:Prop}{w:World} (hgd:o.guard=none) (s x:Operand)
  (ho:o.op= .call { callee := .builtin .append,args:=#[s,x],argTypes:=#[22,22]})
  (B:Nat) (v:Value) (xs:List Value) (hs:a.eval s=v) (hown:Own1 w B 3 v xs) (c:Int) (g0:Nat) (hx:a.eval x= .slice (some ⟨g0,0,none⟩) 1 1) (hc:w.cell? ⟨g0,0,none⟩=some (.int .i64 c)) (hl:xs.length<=4194304) (hB:B<=w.heap.size)
  (h:∀ av nn cv w',Own1 w' B 3 (.slice av nn cv) (xs++[.int .i64 c])->(∀ w0,Below B w0 w->Below B w0 w')->w.heap.size<=w'.heap.size->K (a.put o.dst (.slice av nn cv)) w') :
  if Region.wanted o (yielded ops a.tmps)=true then Oper.wp Tryz.prog o a w K Q else E:=by
 obtain ⟨i0,hi0,hz0,hz1,hz2⟩:=info_parts Qbu
 refine step_append_lies w hgd s x 22 ho B 3 i0 (.int .i64 0) 1 8 Tryz.underlying22 hi0 hz0 hz1 hz2 rfl (by omega) v xs.length _ hs hown ⟨g0,0,none⟩ 1 1 [.int .i64 c] hx rfl ?_ (by simp [Value.oneCell']) (by omega) (by unfold maxLen;omega) (by omega) hB _ rfl ?_
 ·intro j u hj
  cases j with
  | zero=>simp at hj;rw [<- hj];exact hc
  | succ j=>simp at hj
 ·intro g cap w' hown' hg _ hlt
  refine h _ _ _ w' ?_ ?_ hg.size
  ·unfold Own1
   rw [List.length_append]
   exact hown'
  ·intro w0 hb
   exact hb.grown hg hB fun k hk=>(World.ownsRow.lt hown k hk).1
theorem Qgs {ops:Array Oper}{o:Oper}{a:Act}{K:Act->World->Prop}{Q:Exit->Act->World->Prop}{E:Prop}{w:World} (hgd:o.guard=none) (s x:Operand)
  (ho:o.op= .call { callee := .builtin .append,args:=#[s,x],argTypes:=#[22,22]})
  (B:Nat) (v:Value) (xs:List Value) (hs:a.eval s=v) (hown:Own1 w B 3 v xs) (h0:0 < xs.length) (ad:Addr) (c:Nat) (hx:a.eval x= .slice (some ad) 0 c) (hl:xs.length<=4194304) (hB:B<=w.heap.size)
  (h:∀ g cap w',Own1 w' B 3 (.slice (some ⟨g,0,none⟩) xs.length cap) xs->(∀ w0,Below B w0 w->Below B w0 w')->w.heap.size<=w'.heap.size->K (a.put o.dst (.slice (some ⟨g,0,none⟩) xs.length cap)) w') :
  if Region.wanted o (yielded ops a.tmps)=true then Oper.wp Tryz.prog o a w K Q else E:=by
 obtain ⟨i0,hi0,hz0,hz1,hz2⟩:=info_parts Qbu
 have hw:Region.wanted o (yielded ops a.tmps)=true:=by simp [Region.wanted,hgd]
 rw [if_pos hw]
 obtain ⟨v',w',hr,h2,h3,_,h5⟩:=run_append_own_at (P:=Tryz.prog) w B 22 o.type 3 i0 (.int .i64 0) 1 8 Tryz.underlying22 hi0 hz0 hz1 hz2 rfl (by omega) v xs.length _ hown ad 0 c [] rfl (fun j u hj=>by simp at hj) (fun u hu=>by simp at hu) (by unfold maxLen;omega) (by omega) hB
 rw [List.append_nil] at h2
 obtain ⟨g,cap,rfl,_,hlt⟩:=h2.form (by omega)
 unfold Oper.wp execOp
 simp only [ho,resolve,invoke,builtin,Sem.run_bind,Sem.run_pure,Result.andThen_ok,List.map_toArray,List.map_cons,List.map_nil,hs,hx,hr]
 exact h g cap w' h2 (fun w0 hb=>hb.grown h3 hB fun k hk=>(World.ownsRow.lt hown k hk).1) h3.size
theorem Qii (w:World) (v:Value) (e:TypeId):(w.alloc (.cells #[v] e)).cell? ⟨w.heap.size,0,none⟩=some v:=by
 rw [cell_of_row _ w.heap.size 0 _ _ (0,0) (heap_alloc_new w _)]
 rfl
theorem Qls {s:List Nat}{k:Nat} (h:k < s.length):(s.take (k+1)).eraseIdx k=(s.take k).eraseIdx k:=by
 rw [List.take_succ_eq_append_getElem h]
 have hl:(s.take k).length=k:=by rw [List.length_take];omega
 have e1:(s.take k).eraseIdx k=s.take k:=List.eraseIdx_of_length_le (by omega)
 rw [List.eraseIdx_append_of_length_le (by omega),e1,hl,Nat.sub_self]
 simp
theorem Qji {s:List Nat}{k i:Nat} (h:i < s.length) (hk:i≠k):(s.take (i+1)).eraseIdx k=(s.take i).eraseIdx k++[s[i]]:=by
 rw [List.take_succ_eq_append_getElem h]
 have hl:(s.take i).length=i:=by rw [List.length_take];omega
 by_cases hlt:k < i
 ·rw [List.eraseIdx_append_of_lt_length (by omega)]
 ·have e1:(s.take i).eraseIdx k=s.take i:=List.eraseIdx_of_length_le (by omega)
  rw [e1]
  exact List.eraseIdx_of_length_le (by simp;omega)
theorem Qij (h:Sl) (s:List Nat) (k:Nat) (W:World) (hs:Reads1 W (sv h) (s.map natV)) (hs8:s.length<=8) :
  Calls Tryz.prog 124 #[sv h,.int .i64 (k:Int)] W (fun e w'=>∃ A n c,e= .returned (.slice A n c)/\Own1 w' W.heap.size 3 (.slice A n c) ((s.eraseIdx k).map natV)/\Below W.heap.size W w'):=by
 obtain ⟨A0,n0,c0,he0,hn0,hcell⟩:=Qbc hs
 obtain ⟨hA,hn,hc⟩:=h
 injection he0 with e1 e2 e3
 subst e1;subst e2;subst e3
 dsimp only at hn0 hcell
 have HN:=hD hn0
 have HCE:=hD hcell
 have hn8:hn<=8:=by omega
 obtain ⟨er,her⟩:∃ er:Nat->List Value,er=fun i=>((s.take i).eraseIdx k).map natV:=⟨_,rfl⟩
 have HE0:Hid (er 0=[]):=by unfold Hid;rw [her];simp
 have HEN:Hid (er hn=(s.eraseIdx k).map natV):=by unfold Hid;rw [her,hn0];simp
 have HES:Hid (∀ i (h:i < s.length),i≠k->er i++[natV s[i]]=er (i+1)):=fun i h1 h2=>by rw [her];show _=((s.take (i+1)).eraseIdx k).map natV;rw [Qji h1 h2,List.map_append];rfl
 have HEK:Hid (∀ i (h:i < s.length),i=k->er (i+1)=er i):=fun i h1 h2=>by subst h2;rw [her];show ((s.take (i+1)).eraseIdx i).map natV=_;rw [Qls h1]
 have HEL:Hid (∀ i,(er i).length<=i):=fun i=>by rw [her];show (((s.take i).eraseIdx k).map natV).length<=i;rw [List.length_map];refine Nat.le_trans (List.length_eraseIdx_le ..) ?_;rw [List.length_take];omega
 clear hs hn0 hcell her hs8
 dsimp only [sv]
 go_enter Tryz.func124,Tryz.ntmps124
 go_wp2
 go_loopw [5,6] (fun ov iv wr=>∃ (i:Nat),i<=hn/\iv= .int .i64 (i:Int)/\Own1 wr W.heap.size 3 ov (er i)/\Below W.heap.size W wr) (fun _ iv _=>hn - (intOf iv).toNat)
 case atStart=>exact ⟨0,Nat.zero_le _,rfl,by rw [HE0.out];exact Own1.nil _ _ _,Below.refl _ _⟩
 case round =>
  obtain ⟨i,hi,rfl,hown,hbl⟩:=hrel
  have HOWN:=hD hown
  have HBL:=hD hbl
  obtain ⟨vA,vc,hv⟩:∃ A c,_=Value.slice A (er i).length c:=hown.reads.len
  subst hv
  have hsz:=hbl.size
  clear hown hbl
  by_cases hlt:i < hn
  ·have hlt2:(i:Int) < (hn:Int):=by omega
   have his:i < s.length:=by have:=HN.out;omega
   obtain ⟨b0,o0,hA0,hce⟩:=HCE.out i his
   subst hA0
   have hcd:=QaB HBL.out hce
   by_cases hik:i=k
   ·have hne:((i:Int) != (k:Int))=false:=by rw [bne_eq_false_iff_eq];omega
    have HEI:=hD (HEK.out i his hik)
    clear hik hce
    generalize (er i).length=nn at HOWN ⊢
    go_wp2
    go_roundw
    case rel=>exact ⟨i+1,by omega,by go_num,by rw [HEI.out];exact HOWN.out,HBL.out⟩
    case measure=>simp [intOf];omega
   ·have hne:((i:Int) != (k:Int))=true:=by rw [bne_iff_ne];omega
    have HEI:=hD (HES.out i his hik)
    have HL1:Hid (((er i).length+1)*8<=140737488355328):=by have:=HEL.out i;show _<=_;omega
    have HL2:Hid ((er i).length+1<=140737488355328):=by have:=HEL.out i;show _<=_;omega
    clear hik hce
    generalize s[i]=d at HEI hcd
    generalize hXX:er i=XX at *
    clear hXX
    go_wp2_with (at_builtin;refine QaW rfl (.tmp 16) (.tmp 21) 22 3 rfl Tryz.underlying22 (.int .i64 0) 8 Qbu rfl W.heap.size _ XX rfl HOWN.out (.int .i64 (d:Int)) rfl wr.heap.size rfl rfl HL1.out HL2.out hsz ?_;intro v' w6 hv' hb';rw [HEI.out] at hv';have HV:=hD hv';have HB':=hD (hb' W HBL.out);clear hb' hv')
    go_roundw
    case rel=>exact ⟨i+1,by omega,by go_num,HV.out,HB'.out⟩
    case measure=>simp [intOf];omega
  ·have hge:¬ (i:Int) < (hn:Int):=by omega
   obtain rfl:i=hn:=by omega
   have HOW:=HOWN
   rw [HEN.out] at HOW
   rw [HEN.out]
   generalize ((s.eraseIdx k).map natV).length=nn at HOW ⊢
   go_wp2
   go_ret
   exact ⟨_,_,_,rfl,HOW.out,HBL.out⟩
theorem QfK (h x:Sl) (f:Int) (hh:0 < h.2.1) (hb8:h.2.1<=8) (w:World):Calls Tryz.prog 79 #[plV h x f,.bool false] w fun e w'=>e= .returned (.int .i64 ((h.2.1 - 1:Nat):Int))/\Below w.heap.size w w':=by
 have HS:=hD (PB.new w h x f)
 have he:((h.2.1 - 1:Nat):Int)=(h.2.1:Int) - 1:=by omega
 rw [he]
 clear he
 go_enter Tryz.func79,Tryz.ntmps79
 obtain ⟨p0,p1,p2⟩:=Qax HS.out.one
 go_wp2
 go_ret
 exact ⟨rfl,HS.out.bel⟩
theorem Qsu {a:PA}{r:List Nat}{k:Nat} (hr:r.length=k):rowK a k r=(List.range (a.shape.getD k 0)).map fun i=>plcN a.shape (r++[i]):=by
 unfold rowK
 refine List.map_congr_left fun i _=>?_
 rw [List.take_of_length_le (by omega),List.drop_of_length_le (by omega)]
structure RwI (W:World) (h x:Sl) (f:Int) (ov:Value) (xs:List Value) (wr:World):Prop where
 own:Own1 wr (W.heap.size+1) 3 ov xs
 pb:PB W wr h x f
theorem Qlt {H:Nat->Prop}{w:World}{a:PA}{h x:Sl}{f:Int} (g:PV H w (rawP a) h x f) (d:Nat) (hg:GoodA d a) (hr0:0 < a.shape.length) (rA:Addr) (rn rc:Nat) (r:List Nat) (hrc:rn<=rc) (W:World) (hb:Below w.heap.size w W) (hr:Reads1 W (.slice (some rA) rn rc) (r.map natV)) (hin:InSh (a.shape.eraseIdx (a.shape.length - 1)) r) :
  Calls Tryz.prog 127 #[plV h x f,.int .i64 ((h.2.1 - 1:Nat):Int),.slice (some rA) rn rc] W (fun e w'=>∃ A n c,e= .returned (.slice A n c)/\Own1 w' W.heap.size 3 (.slice A n c) ((rowK a (a.shape.length - 1) r).map natV)/\Below W.heap.size W w'):=by
 have hrk:=QeM g
 rw [Qcl (rawP a)] at g
 obtain ⟨hsr,hff,hx,hit⟩:=g.open_
 rw [QbO] at hsr
 have hsr2:=hsr
 rw [List.map_map] at hsr2
 have hsn:∀ W',Below w.heap.size w W'->Reads1 W' (sv h) (a.shape.map natV):=fun W' hb'=>(Keeps.lat hsr2 (Lat.below hb')).now
 obtain ⟨A9,n9,c9,he9,hn9,hcell⟩:=Qbc (hsn W hb)
 obtain ⟨hA,hn,hc⟩:=h
 injection he9 with e1 e2 e3
 dsimp only at e1 e2 hrk hx hit
 subst e1;subst e2;subst e3
 have hok:OkSh a.shape a.len:=hg.sh.2
 obtain ⟨b9,o9,hA9,-⟩:=hcell 0 hr0
 subst hA9
 have hrl:r.length=a.shape.length - 1:=by rw [hin.1,List.length_eraseIdx,if_pos (by omega)]
 have hrn:rn=r.length:=by
  obtain ⟨A8,c8,e8⟩:=hr.len
  rw [List.length_map] at e8
  injection e8 with _ e8 _
 obtain rfl:hn=rn+1:=by omega
 have hks:rn < a.shape.length:=by omega
 obtain ⟨n,hn0⟩:∃ n,n=a.shape.getD rn 0:=⟨_,rfl⟩
 have hns:n=a.shape[rn]:=by rw [hn0];simp [List.getD,hks]
 have hdc:W.cell? ⟨b9,o9+rn,none⟩=some (.int .i64 (n:Int)):=by
  obtain ⟨b8,o8,e8,hc8⟩:=hcell rn hks
  injection e8 with e8
  injection e8 with e6 e7 _
  subst e6;subst e7
  rw [hns];exact hc8
 have HDC:=hD hdc
 have hnb:n<=1048576:=by rw [hns];exact Nat.le_trans (Qc0 hks) hok.2.1
 have HIN:Hid (∀ i,i < n->InSh a.shape (r++[i])):=fun i hi=>by
  have h1:=Qkj (k:=rn) (i:=i) hks (by rw [hrn,hrl];exact hin) (by rw [<- hn0];exact hi)
  rw [List.take_of_length_le (by omega),List.drop_of_length_le (by omega)] at h1
  exact h1
 have HPC:=hD (fun W' (hb':Below w.heap.size w W') (ih:Sl) i (hi:i < n) (hR:Reads1 W' (sv ih) ((r++[i]).map natV))=>Qlb (some ⟨b9,o9,none⟩,rn+1,hc) ih a.shape (r++[i]) a.len W' (hsn W' hb') hR hok (HIN.out i hi))
 obtain ⟨er,her⟩:∃ er:Nat->List Value,er=fun i=>((List.range i).map fun i=>plcN a.shape (r++[i])).map natV:=⟨_,rfl⟩
 have HE0:Hid (er 0=[]):=by unfold Hid;rw [her];rfl
 have HEN:Hid ((rowK a (a.shape.length - 1) r).map natV=er n):=by unfold Hid;rw [Qsu hrl,her,show a.shape.length - 1=rn by omega,<- hn0]
 have HES:Hid (∀ i,er i++[.int .i64 (plcN a.shape (r++[i]):Int)]=er (i+1)):=fun i=>by rw [her];show _=((List.range (i+1)).map _).map natV;rw [List.range_succ,List.map_append,List.map_append];rfl
 have HEL:Hid (∀ i,(er i).length=i):=fun i=>by rw [her];simp
 have hr8:rn<=7:=by have:=hok.1;omega
 have HR:=hD hr
 have HB:=hD hb
 have HRN:=hD hrn
 have HS0:Hid (RwI W (some ⟨b9,o9,none⟩,rn+1,hc) x f (.slice none 0 0) (er 0) (W.alloc (plO (some ⟨b9,o9,none⟩,rn+1,hc) x f))):=⟨by rw [HE0.out];exact Own1.nil _ _ _,PB.new W _ x f⟩
 rw [HEN.out]
 have hki:((rn+1 - 1:Nat):Int)=(rn:Int):=by omega
 dsimp only
 rw [hki]
 clear g hsr hsr2 hsn hff hx hit hcell hok hns hdc hin hrl hr hb hn9 hki her hn0 hg hr0 hrk hrn
 go_enter Tryz.func127,Tryz.ntmps127
 go_wp2
 go_loopw [7,8] (fun ov iv wr=>∃ (i:Nat),i<=n/\iv= .int .i64 (i:Int)/\RwI W (some ⟨b9,o9,none⟩,rn+1,hc) x f ov (er i) wr) (fun _ iv _=>n - (intOf iv).toNat)
 case atStart=>exact ⟨0,Nat.zero_le _,rfl,HS0.out⟩
 case round =>
  obtain ⟨i,hi,rfl,hrw⟩:=hrel
  have HRW:=hD hrw
  obtain ⟨vA,vc,hv⟩:∃ A c,_=Value.slice A (er i).length c:=hrw.own.reads.len
  subst hv
  obtain ⟨p0,p1,p2⟩:=Qax hrw.pb.one
  have hsz:W.heap.size+1<=wr.heap.size:=Qav p0
  have cdk:=QaB hrw.pb.bel HDC.out
  dsimp only at p0
  clear hrw HS0
  by_cases hlt:i < n
  ·have hlt2:(i:Int) < (n:Int):=by omega
   have HEI:=hD (HES.out i)
   have HELI:=hD (HEL.out i)
   have HP:=hD (fun W' hb' ih hR=>HPC.out W' hb' ih i hlt hR)
   generalize plcN a.shape (r++[i])=pl at HEI HP
   have hrl8:r.length<=7:=by have:=HRN.out;omega
   have hri:(rn:Int)<=(rc:Int):=by omega
   have hr00:(0:Int)<=(rn:Int):=by omega
   have HE0':Hid (Own1 (wr.alloc (.cells #[] 3)) wr.heap.size 3 (.slice (some ⟨wr.heap.size,0,none⟩) 0 0) []):=World.ownsRow_lit (base:=wr.heap.size) (e:=3) (size:=1) wr #[] 0 (Nat.le_refl _) (by decide) rfl
   have HBA:=hD (bel1 wr (.cells #[] 3))
   have HRA:=hD (HR.out.below (Qaa HRW.out.pb.bel HBA.out))
   have hw0:wr.heap.size<=(wr.alloc (.cells #[] 3)).heap.size:=by simp
   have HL3:Hid (([]:List Value).length+rn<=4194304):=by unfold Hid;simp;omega
   have HL1:Hid (((r.map natV).length+1)*8<=140737488355328):=by unfold Hid;rw [List.length_map];omega
   have HL2:Hid ((r.map natV).length+1<=140737488355328):=by unfold Hid;rw [List.length_map];omega
   go_wp2_with (first
    | (at_builtin;refine Qer rfl (.tmp 19) (.tmp 22) rfl wr.heap.size (.slice (some ⟨wr.heap.size,0,none⟩) 0 0) [] rfl HE0'.out rA rn rc (r.map natV) rfl HRA.out Qnx HL3.out hw0 ?_;intro v1 w1 ho1 hb1;have HO1:=hD ho1;rw [List.nil_append] at HO1;have HB1:=hD (hb1 wr HBA.out);have hs1:wr.heap.size<=w1.heap.size:=HB1.out.size;clear ho1 hb1)
    | (at_builtin;refine QaW rfl (.tmp 24) (.tmp 26) 22 3 rfl Tryz.underlying22 (.int .i64 0) 8 Qbu rfl wr.heap.size v1 (r.map natV) rfl HO1.out (.int .i64 (i:Int)) rfl w1.heap.size rfl rfl HL1.out HL2.out hs1 ?_;intro v2 w2 ho2 hb2;have HB2:=hD (hb2 wr HB1.out);(obtain ⟨g2,c2,hv2,hle2⟩:∃ g c,v2= .slice (some ⟨g,0,none⟩) (r.length+1) c/\r.length+1<=c:=Qkf ho2 (by simp));subst hv2;have HO2:=hD ho2;clear ho2 hb2 hle2))
   have HB2':=hD HB2.out.drew
   have HO2D:Hid (Own1 w2.drew wr.heap.size 3 (.slice (some ⟨g2,0,none⟩) (r.length+1) c2) (r.map natV++[.int .i64 (i:Int)])):=HO2.out.below (Below.refl _ _).drew
   have hs2:wr.heap.size<=w2.heap.size:=HB2.out.size
   have HS2D:Hid (wr.heap.size<=w2.drew.heap.size):=hs2
   have HL4:Hid ((r.map natV++[Value.int .i64 (i:Int)]).length<=4194304):=by unfold Hid;simp;omega
   have HL5:Hid (0 < (r.map natV++[Value.int .i64 (i:Int)]).length):=by unfold Hid;simp
   have HLE:Hid ((r.map natV++[Value.int .i64 (i:Int)]).length=r.length+1):=by unfold Hid;simp
   have HP2:=hD (HRW.out.pb.step HB2'.out)
   obtain ⟨p0,p1,p2⟩:=Qax HP2.out.one
   dsimp only at p0
   have HL6:Hid ((er i).length<=4194304):=by unfold Hid;rw [HELI.out];omega
   have HRM:Hid ((r++[i]).map natV=r.map natV++[.int .i64 (i:Int)]):=by unfold Hid;rw [List.map_append];rfl
   go_upto_region 7 with fail
   by_cases hEq:rn=rc
   ·subst hEq
    go_region_law (first
     | (refine Qgs rfl (.tmp 31) (.tmp 34) rfl wr.heap.size (.slice (some ⟨g2,0,none⟩) (r.length+1) c2) (r.map natV++[.int .i64 (i:Int)]) (by rfl) HO2D.out HL5.out rA 0 (by rfl) HL4.out HS2D.out ?_;intro g3 c3 w3 ho3 hb3 hs3;rw [HLE.out] at ho3 ⊢;have HO3:=hD ho3;have HB3:=hD (hb3 wr HB2'.out);have HP3:=hD (HRW.out.pb.step HB3.out);obtain ⟨s0,s1,s2⟩:=Qax HP3.out.one;dsimp only at s0;clear ho3 hb3 hs3)
     | (refine QfJ rfl (.tmp 28) (.tmp 37) rfl (W.heap.size+1) (.slice vA (er i).length vc) (er i) rfl HOW5.out (pl:Int) w5.heap.size rfl HC5.out HL6.out HS5.out ?_;intro av nn cv w6 ho6 hb6 hs6;rw [HEI.out] at ho6;have HO6:=hD ho6;have HB6:=hD (hb6 wr (HBA5.out.mono hsz));clear ho6 hb6 hs6)
     | (go_simp;go_at_call 160;refine (HP.out _ (Qaa HB.out HP3.out.bel) (some ⟨g3,0,none⟩,r.length+1,c3) (by rw [HRM.out];exact HO3.out.reads)).mono ?_;rintro e w5 ⟨rfl,hb5⟩;have HB5:=hD (Qaa HB3.out hb5);have HBA5:=hD (Qaa HB5.out (bel1 w5 (.cells #[.int .i64 (pl:Int)] 3)));have HOW5:=hD (HRW.out.own.below HBA5.out);have HC5:=hD (Qii w5 (.int .i64 (pl:Int)) 3);have HS5:Hid (W.heap.size+1<=(w5.alloc (.cells #[.int .i64 (pl:Int)] 3)).heap.size):=Nat.le_trans hsz HBA5.out.size;clear hb5))
    all_goals
     go_wp2
     go_roundw
     case rel=>exact ⟨i+1,by omega,by go_num,⟨HO6.out,HRW.out.pb.up HB6.out⟩⟩
     case measure=>simp [intOf];omega
   ·have hEq2:¬ rc=rn:=fun e=>hEq e.symm
    clear hEq
    go_region_law (first
     | (refine Qgs rfl (.tmp 31) (.tmp 34) rfl wr.heap.size (.slice (some ⟨g2,0,none⟩) (r.length+1) c2) (r.map natV++[.int .i64 (i:Int)]) (by rfl) HO2D.out HL5.out (rA.add rn) (rc - rn) (by rfl) HL4.out HS2D.out ?_;intro g3 c3 w3 ho3 hb3 hs3;rw [HLE.out] at ho3 ⊢;have HO3:=hD ho3;have HB3:=hD (hb3 wr HB2'.out);have HP3:=hD (HRW.out.pb.step HB3.out);obtain ⟨s0,s1,s2⟩:=Qax HP3.out.one;dsimp only at s0;clear ho3 hb3 hs3)
     | (refine QfJ rfl (.tmp 28) (.tmp 37) rfl (W.heap.size+1) (.slice vA (er i).length vc) (er i) rfl HOW5.out (pl:Int) w5.heap.size rfl HC5.out HL6.out HS5.out ?_;intro av nn cv w6 ho6 hb6 hs6;rw [HEI.out] at ho6;have HO6:=hD ho6;have HB6:=hD (hb6 wr (HBA5.out.mono hsz));clear ho6 hb6 hs6)
     | (go_simp;go_at_call 160;refine (HP.out _ (Qaa HB.out HP3.out.bel) (some ⟨g3,0,none⟩,r.length+1,c3) (by rw [HRM.out];exact HO3.out.reads)).mono ?_;rintro e w5 ⟨rfl,hb5⟩;have HB5:=hD (Qaa HB3.out hb5);have HBA5:=hD (Qaa HB5.out (bel1 w5 (.cells #[.int .i64 (pl:Int)] 3)));have HOW5:=hD (HRW.out.own.below HBA5.out);have HC5:=hD (Qii w5 (.int .i64 (pl:Int)) 3);have HS5:Hid (W.heap.size+1<=(w5.alloc (.cells #[.int .i64 (pl:Int)] 3)).heap.size):=Nat.le_trans hsz HBA5.out.size;clear hb5))
    all_goals
     go_wp2
     go_roundw
     case rel=>exact ⟨i+1,by omega,by go_num,⟨HO6.out,HRW.out.pb.up HB6.out⟩⟩
     case measure=>simp [intOf];omega
  ·have hge:¬ (i:Int) < (n:Int):=by omega
   obtain rfl:i=n:=by omega
   have HOW:Hid (Own1 wr W.heap.size 3 (.slice vA (er i).length vc) (er i)):=HRW.out.own.lower (Nat.le_succ _)
   generalize (er i).length=nn at HOW ⊢
   go_wp2
   go_ret
   exact ⟨_,_,_,rfl,HOW.out,HRW.out.pb.bel⟩
structure PQ3 where
 h:Sl
 x:Sl
 f:Int
instance:Inhabited PQ3:=⟨⟨nilS,nilS,0⟩⟩
abbrev plQL (q:PQ3):List Value:=[sv q.h,sv q.x,.int .i64 q.f]
def QcC (n:Nat) (qq:Nat->PQ3):List Value:=(List.range n).flatMap fun i=>plQL (qq i)
theorem Qdn (n:Nat) (qq:Nat->PQ3):QcC (n+1) qq=QcC n qq++plQL (qq n):=by
 unfold QcC
 rw [List.range_succ,List.flatMap_append]
 simp
theorem Qem (n:Nat) (qq:Nat->PQ3):(QcC n qq).length=n*3:=by
 induction n with
 | zero=>rfl
 | succ n ih=>rw [Qdn,List.length_append,ih];simp;omega
theorem Qlu (n:Nat) (qq:Nat->PQ3) (i j:Nat) (hi:i < n) (hj:j < 3):(QcC n qq)[i*3+j]?=(plQL (qq i))[j]?:=by
 induction n with
 | zero=>omega
 | succ n ih =>
  rw [Qdn]
  by_cases h:i < n
  ·rw [List.getElem?_append_left (by rw [Qem];omega)]
   exact ih h
  ·obtain rfl:i=n:=by omega
   rw [List.getElem?_append_right (by rw [Qem];omega),Qem]
   congr 1
   omega
theorem Qik (n:Nat){qq qq':Nat->PQ3} (h:∀ i,i < n->qq i=qq' i):QcC n qq=QcC n qq':=by
 unfold QcC
 induction n with
 | zero=>rfl
 | succ n ih =>
  rw [List.range_succ,List.flatMap_append,List.flatMap_append,ih fun i hi=>h i (by omega)]
  simp [h n (by omega)]
theorem Qp8 {w:World}{b o n:Nat}{qq:Nat->PQ3} (h:∀ j u,(QcC n qq)[j]?=some u->w.cell? ⟨b,o+j,none⟩=some u) (i:Nat) (hi:i < n):At3 w b (o+i*3) (qq i).h (qq i).x (qq i).f:=by
 have k:∀ j u,j < 3->(plQL (qq i))[j]?=some u->w.cell? ⟨b,o+i*3+j,none⟩=some u:=fun j u hj hu=>by
  rw [Nat.add_assoc]
  exact h _ _ (by rw [Qlu n qq i j hi hj];exact hu)
 exact ⟨k 0 _ (by decide) rfl,k 1 _ (by decide) rfl,k 2 _ (by decide) rfl⟩
def POwn (H:Nat->Prop) (w:World) (B:Nat) (v:Value) (l:List RP):Prop :=
 ∃ qq:Nat->PQ3,w.ownsRow B 25 3 v l.length (QcC l.length qq)/\∀ i (hi:i < l.length),PV (fun b=>H b\/v.ownBlock=some b) w l[i] (qq i).h (qq i).x (qq i).f
theorem POwn.nil (H:Nat->Prop) (w:World) (B:Nat):POwn H w B (.slice none 0 0) []:=⟨fun _=>default,World.ownsRow_nil w B _ _,fun i hi=>by simp at hi⟩
theorem POwn.len {H:Nat->Prop}{w:World}{B:Nat}{v:Value}{l:List RP} (h:POwn H w B v l):∃ a c,v= .slice a l.length c:=by
 obtain ⟨qq,hown,ha⟩:=h
 rcases hown.2 with ⟨rfl,h0⟩ | ⟨g,cap,cur,rfl,_⟩
 ·exact ⟨none,0,by rw [h0]⟩
 ·exact ⟨_,_,rfl⟩
theorem POwn.own_lt {H:Nat->Prop}{w:World}{B:Nat}{v:Value}{l:List RP} (h:POwn H w B v l){b:Nat} (e:v.ownBlock=some b):B<=b/\b < w.heap.size:=by
 obtain ⟨qq,hown,ha⟩:=h
 exact World.ownsRow.lt hown b e
theorem POwn.below {H:Nat->Prop}{w w':World}{B:Nat}{v:Value}{l:List RP} (h:POwn H w B v l) (hb:Below w.heap.size w w'):POwn H w' B v l:=by
 have h':=fun b e=>h.own_lt (b:=b) e
 obtain ⟨qq,hown,ha⟩:=h
 refine ⟨qq,⟨hown.1,?_⟩,fun i hi=>(ha i hi).step hb⟩
 rcases hown.2 with h2 | ⟨g,cap,cur,hv,hbg,hg,r⟩
 ·exact .inl h2
 ·refine .inr ⟨g,cap,cur,hv,hbg,?_,r⟩
  have e:v.ownBlock=some g:=by rw [hv];rfl
  rw [hb.block g (h' g e).2];exact hg
def PSl (H:Nat->Prop) (w:World) (x:Sl) (l:List RP):Prop:=x.2.1=l.length/\((l=[]/\True)\/∃ b o,x.1=some ⟨b,o,none⟩/\¬ H b/\PVs H w b o l)
theorem PSl.at_ {H:Nat->Prop}{w:World}{x:Sl}{l:List RP} (g:PSl H w x l):∀ i (hi:i < l.length),∃ b o h y f,x.1=some ⟨b,o,none⟩/\¬ H b/\PV H w l[i] h y f/\∀ w1,Lat H w w1->At3 w1 b (o+i*3) h y f:=by
 intro i hi
 rcases g.2 with ⟨rfl,_⟩ | ⟨b,o,g5,hb,g6⟩
 ·simp at hi
 ·obtain ⟨h,y,f,g7,g8⟩:=PVs.at_ hi g6
  exact ⟨b,o,h,y,f,g5,hb,g8,fun w1 k=>g7.lat hb k⟩
theorem POwn.psl {H:Nat->Prop}{w:World}{B:Nat}{v:Value}{l:List RP} (h:POwn H w B v l) (hH:∀ b,H b->b < B):∃ x:Sl,v=sv x/\PSl H w x l:=by
 obtain ⟨qq,hown,ha⟩:=h
 have hcell:=fun {g:Nat} (hg:v.ownBlock=some g)=>World.ownsRow.cells hown hg
 rcases hown.2 with ⟨rfl,h0⟩ | ⟨g,cap,cur,rfl,hbg,_⟩
 ·have:l=[]:=List.eq_nil_of_length_eq_zero h0
  subst this
  exact ⟨(none,0,0),rfl,rfl,.inl ⟨rfl,trivial⟩⟩
 ·refine ⟨(some ⟨g,0,none⟩,l.length,cap),rfl,rfl,.inr ⟨g,0,rfl,fun e=>by have:=hH g e;omega,Qms _ _ fun i hi=>⟨(qq i).h,(qq i).x,(qq i).f,?_,PV.sub (fun _ _ e => .inl e) (ha i hi)⟩⟩⟩
  refine Qp8 (fun j u hu=>?_) i hi
  have:=hcell (g:=g) rfl j u hu
  rw [Qba] at this
  exact this
theorem Qjj:(Tryz.prog.info? 25).map (fun i=>(i.zero,i.size,i.bytes))=some (some (.agg #[.slice none 0 0,.slice none 0 0,.int .i64 0]),3,56):=by kernel_rfl
theorem Qil {ops:Array Oper}{rest:List Oper}{o:Oper}{a:Act}{Q:Exit->Act->World->Prop}{w:World} (hgd:o.guard=none) (s x:Operand)
  (ho:o.op= .call { callee := .builtin .append,args:=#[s,x],argTypes:=#[61,61]})
  (H:Nat->Prop) (B:Nat) (v:Value) (l:List RP) (hs:a.eval s=v) (hown:POwn H w B v l) (q:PQ3) (A:RP) (hA:PV (fun b=>H b\/v.ownBlock=some b) w A q.h q.x q.f)
  (hx:a.eval x= .slice (some ⟨w.heap.size,0,none⟩) 1 1) (hl:l.length<=1048576) (hB:B<=w.heap.size)
  (k:∀ v' w',POwn H w' B v' (l++[A])->(∀ w0,Below B w0 w->Below B w0 w')->Lat (fun b=>v.ownBlock=some b) w w'->(v'.ownBlock=v.ownBlock\/∃ g,v'.ownBlock=some g/\w.heap.size<=g)->wpList Tryz.prog ops Q rest (a.put o.dst v') w') :
  wpList Tryz.prog ops Q (o::rest) a (w.alloc (.cells #[sv q.h,sv q.x,.int .i64 q.f] 25)):=by
 obtain ⟨i0,hi0,hz0,hz1,hz2⟩:=info_parts Qjj
 obtain ⟨qq,hrow,hel⟩:=hown
 refine wpList_append_own_at _ hgd s x 61 ho B 25 i0 _ 3 56 Tryz.underlying61 hi0 hz0 hz1 hz2 rfl (by omega) v l.length _ hs
  (World.ownsRow.alloc hrow _) ⟨w.heap.size,0,none⟩ 1 1 (plQL q) hx rfl ?_ ?_ (by unfold maxLen;omega) (by omega) (by simp;omega) ?_
 ·intro j u hj
  rw [Qba,Nat.zero_add,cell_of_row _ w.heap.size j _ _ (0,0) (heap_alloc_new w _)]
  simpa using hj
 ·intro u hu
  simp only [List.mem_cons,List.not_mem_nil,or_false] at hu
  rcases hu with rfl | rfl | rfl <;> rfl
 intro v' w' hown' hg _ hat
 have hsz:w.heap.size+1<=w'.heap.size:=by have:=hg.size;simpa using this
 have hat2:v'.ownBlock=v.ownBlock\/∃ g,v'.ownBlock=some g/\w.heap.size<=g:=by
  rcases hat with e | e
  ·exact .inl e
  ·exact .inr ⟨_,e,by simp⟩
 have hlat:Lat (fun b=>v.ownBlock=some b) w w':=⟨by omega,fun b hb hn=>by rw [hg.block b (by simp;omega) (fun e=>hn e.symm),(bel1 w _).block b hb]⟩
 refine k v' w' ⟨fun i=>if i < l.length then qq i else q,?_,fun i hi=>?_⟩ (fun w0 hb=>((hb.alloc hB _).grown hg (by simp;omega) fun k hk=>(World.ownsRow.lt hrow k hk).1)) hlat hat2
 ·rw [show (l++[A]).length=l.length+1 by simp,Qdn]
  have e:QcC l.length (fun i=>if i < l.length then qq i else q)=QcC l.length qq:=Qik _ fun i hi=>by rw [if_pos hi]
  rw [e,if_neg (Nat.lt_irrefl _)]
  exact hown'
 ·have up:∀ {A:RP} {q:PQ3},PV (fun b=>H b\/v.ownBlock=some b) w A q.h q.x q.f->PV (fun b=>H b\/v'.ownBlock=some b) w' A q.h q.x q.f:=by
   intro A q hA
   have h1:PV (fun b=>(H b\/v.ownBlock=some b)\/v'.ownBlock=some b) w A q.h q.x q.f:=PV.sub (fun b hb e=>by
    rcases e with e | e
    ·exact e
    ·rcases hat2 with e2 | ⟨g,e2,hg2⟩
     ·rw [e2] at e;exact .inr e
     ·rw [e2] at e
      injection e with e
      omega) hA
   have h2:PV (fun b=>(H b\/v.ownBlock=some b)\/v'.ownBlock=some b) w' A q.h q.x q.f:=PV.lat ⟨hlat.size,fun b hb hn=>hlat.block b hb fun e=>hn (.inl (.inr e))⟩ h1
   exact PV.sub (fun b _ e=>by
    rcases e with e | e
    ·exact .inl (.inl e)
    ·exact .inr e) h2
  by_cases hi2:i < l.length
  ·dsimp only
   rw [if_pos hi2,List.getElem_append_left hi2]
   exact up (hel i hi2)
  ·have e:i=l.length:=by rw [List.length_append] at hi;simp at hi;omega
   subst e
   dsimp only
   rw [if_neg hi2]
   simp only [List.getElem_append_right (Nat.le_refl _),Nat.sub_self,List.getElem_cons_zero]
   exact up hA
theorem Qg7 {ops:Array Oper}{rest:List Oper}{o:Oper}{a:Act}{Q:Exit->Act->World->Prop}{w:World} (hgd:o.guard=none) (s x:Operand)
  (ho:o.op= .call { callee := .builtin .append,args:=#[s,x],argTypes:=#[61,61]})
  (H:Nat->Prop) (B:Nat) (v:Value) (l:List RP) (hs:a.eval s=v) (hown:POwn H w B v l) (q:PQ3) (A:RP) (hA:PV (fun b=>H b\/v.ownBlock=some b) w A q.h q.x q.f)
  (G:Nat) (hG:G=w.heap.size) (hx:a.eval x= .slice (some ⟨G,0,none⟩) 1 1) (hl:l.length<=1048576) (hB:B<=w.heap.size)
  (k:∀ v' w',POwn H w' B v' (l++[A])->(∀ w0,Below B w0 w->Below B w0 w')->Lat (fun b=>v.ownBlock=some b) w w'->(v'.ownBlock=v.ownBlock\/∃ g,v'.ownBlock=some g/\w.heap.size<=g)->wpList Tryz.prog ops Q rest (a.put o.dst v') w') :
  wpList Tryz.prog ops Q (o::rest) a (w.alloc (.cells #[sv q.h,sv q.x,.int .i64 q.f] 25)):=by
 subst hG
 exact Qil hgd s x ho H B v l hs hown q A hA hx hl hB k
end Go.Proofs.YtdelgpelkfndeaaGreatDoor
