/- The walks of rebusref21.each (turning back along the last axis) and Reverse. Printed by .. Conditions: as each theorem says. -/
import Derived.Test.YtbakjaliponbbaaGreatDoorMg29
set_option maxRecDepth 100000
set_option maxHeartbeats 2000000
namespace Go.Proofs.YtbakjaliponbbaaGreatDoor
open Go Go.RowKit Go.Proofs Fl
def flipL (s r:List Nat):List Nat:=r.set (s.length - 1) (s.getD (s.length - 1) 0 - 1 - r.getD (s.length - 1) 0)
theorem flipL_in {s r:List Nat} (h:InSh s r):InSh s (flipL s r):=by
 refine ⟨by unfold flipL;rw [List.length_set];exact h.1,fun k hk hk2=>?_⟩
 unfold flipL at hk ⊢
 rw [List.length_set] at hk
 rw [List.getElem_set]
 split
 ·rename_i e
  subst e
  have h1:=h.2 _ hk hk2
  have e1:s.getD (s.length - 1) 0=s[s.length - 1]:=by simp [List.getD,hk2]
  have e2:r.getD (s.length - 1) 0=r[s.length - 1]:=by simp [List.getD,hk]
  rw [e1,e2]
  omega
 ·exact h.2 k hk hk2
def revK (a:PA):List Nat:=((allL a.shape a.len).take a.len).map fun r=>plcN a.shape (flipL a.shape r)
theorem revK_one {a:PA}{n:Nat} (hs:a.shape=[n]) (hn:a.len=n):revK a=(List.range n).map fun j=>n - 1 - j:=by
 unfold revK
 rw [hs,hn,allL_one,List.take_of_length_le (by simp),List.map_map]
 refine List.map_congr_left fun j _=>?_
 show plcN [n] (flipL [n] [j])=n - 1 - j
 have e:flipL [n] [j]=[n - 1 - j]:=rfl
 rw [e]
 show plcN [] []+prodN []*(n - 1 - j)=n - 1 - j
 have e1:plcN [] []=0:=rfl
 have e2:prodN []=1:=rfl
 rw [e1,e2]
 omega
theorem IOwn.lower {H:Nat->Prop}{w:World}{B B':Nat}{v:Value}{l:List RI} (h:IOwn H w B v l) (hB:B'<=B):IOwn H w B' v l:=by
 obtain ⟨qq,hown,ha⟩:=h
 refine ⟨qq,⟨hown.1,?_⟩,ha⟩
 rcases hown.2 with h0 | ⟨g,cap,cur,e,hbg,h3⟩
 ·exact .inl h0
 ·exact .inr ⟨g,cap,cur,e,Nat.le_trans hB hbg,h3⟩
structure TdJ (H:Nat->Prop) (w:World) (lo:Nat) (h:Sl) (f:Int) (l:List RI) (v:Value) (W:World):Prop where
 td:TdI H w h f l v W
 own:IOwn (fun b=>H b\/b=w.heap.size+1\/b=w.heap.size+2) W lo v l
theorem TdJ.step {H:Nat->Prop}{w W W':World}{lo:Nat}{h:Sl}{f:Int}{l:List RI}{v:Value} (g:TdJ H w lo h f l v W) (hb:Below W.heap.size W W'):TdJ H w lo h f l v W':=⟨g.td.step hb,g.own.below hb⟩
theorem TdJ.push {H:Nat->Prop}{w W w':World}{lo:Nat}{h:Sl}{f:Int}{l:List RI}{v v':Value}{A:RI} (g:TdJ H w lo h f l v W) (hH:∀ b,H b->b < w.heap.size) (hlo:w.heap.size+3<=lo) (hown:IOwn (fun b=>H b\/b=w.heap.size+1\/b=w.heap.size+2) w' lo v' (l++[A])) (hb:Below lo W w') :
  TdJ H w lo h f (l++[A]) v' (w'.setCell ⟨w.heap.size+2,1,none⟩ v') :=
 ⟨g.td.push hH (hown.lower hlo) (hb.mono hlo),hown.lat (Lat.set (a:=⟨w.heap.size+2,1,none⟩) (.inr (.inr rfl)) v') (fun b e h2=>by
  have:=(hown.own_lt e).1
  rcases h2 with h2 | h2
  ·have:=hH b h2;omega
  ·omega)⟩
theorem own_nat {w:World}{B:Nat}{v:Value}{r:List Nat}{k:Nat} (h:Own1 w B 3 v (r.map natV)) (hk:k < r.length):∃ g c,v= .slice (some ⟨g,0,none⟩) r.length c/\(B<=g/\g < w.heap.size)/\w.cell? ⟨g,k,none⟩=some (.int .i64 (r.getD k 0:Nat))/\w.frozen? ⟨g,k,none⟩=false/\∀ y:Nat,Reads1 (w.setCell ⟨g,k,none⟩ (.int .i64 (y:Int))) (.slice (some ⟨g,0,none⟩) r.length c) ((r.set k y).map natV):=by
 rcases h.2 with ⟨_,h0⟩ | ⟨g,cap,cur,hv,_⟩
 ·rw [List.length_map] at h0;omega
 ·rw [List.length_map] at hv
  subst hv
  have hlt:=World.ownsRow.lt h g rfl
  have hr:=h.reads
  obtain ⟨A9,n9,c9,e9,hn9,hcell⟩:=map_open hr
  obtain ⟨b8,o8,e8,hc8⟩:=hcell k hk
  injection e9 with e1 _ _
  rw [e8] at e1
  injection e1 with e1
  injection e1 with e2 e3 _
  subst e2;subst e3
  have h3:w.ownsRow B 3 1 (.slice (some ⟨g,0,none⟩) r.length cap) r.length (r.map natV):=by
   have h4:=h
   unfold Own1 at h4
   rw [List.length_map] at h4
   exact h4
  refine ⟨g,cap,rfl,hlt,?_,World.ownsRow.frozenAt h3 k,fun y=>?_⟩
  ·rw [Nat.zero_add] at hc8
   rw [hc8]
   show some (natV r[k])=some (natV (r.getD k 0))
   rw [show r.getD k 0=r[k] from by simp [List.getD,hk]]
  ·have h2:Own1 (w.setCell ⟨g,k,none⟩ (.int .i64 (y:Int))) B 3 (.slice (some ⟨g,0,none⟩) r.length cap) ((r.set k y).map natV):=by
    unfold Own1
    rw [List.length_map,List.length_set]
    have h5:=(World.ownsRow.stored h3 k (.int .i64 (y:Int))).1
    rw [List.map_set]
    exact h5
   exact h2.reads
theorem reach21_any {H:Nat->Prop}{w:World}{a:PA}{h x:Sl}{f:Int} (g:PV H w (rawP a) h x f) (hH:∀ b,H b->b < w.heap.size) (d:Nat) (hg:GoodA d a) (hl:a.len<=1000000) (hr:0 < a.shape.length) (W:World) (hb:Below w.heap.size w W) :
  Calls Tryz.prog 210 #[plV h x f,.int .i64 ((h.2.1:Int) - 1),vnil,.bool true] W (PzR H W (rawP (pkA a.shape a (revK a)))):=by
 have hrk:=rank_len g
 rw [rp_eta (rawP a)] at g
 have hil:(rawP a).its.length=a.len:=rawP_len a
 obtain ⟨hsr,hff,hx,hit⟩:=g.open_
 rw [rawP_fil] at hff
 rw [rawP_shp] at hsr
 have hsr2:=hsr
 rw [List.map_map] at hsr2
 have hsn:∀ W',Below w.heap.size w W'->Reads1 W' (sv h) (a.shape.map natV):=fun W' hb'=>(Keeps.lat hsr2 (Lat.below hb')).now
 obtain ⟨A9,n9,c9,he9,hn9,hcell⟩:=map_open hsr2.now
 obtain ⟨hA,hn,hc⟩:=h
 obtain ⟨xA,xn,xc⟩:=x
 injection he9 with e1 e2 e3
 dsimp only at e1 e2 hrk hx hit
 subst e1;subst e2;subst e3
 have hok:OkSh a.shape a.len:=hg.sh.2
 obtain ⟨b9,o9,hA9,-⟩:=hcell 0 hr
 subst hA9
 obtain ⟨k,hk⟩:∃ k,hn=k+1:=⟨hn - 1,by omega⟩
 subst hk
 have hks:k < a.shape.length:=by omega
 obtain ⟨dk,hdk⟩:∃ dk,dk=a.shape[k]:=⟨_,rfl⟩
 have hdc:w.cell? ⟨b9,o9+k,none⟩=some (.int .i64 (dk:Int)):=by
  obtain ⟨b8,o8,e8,hc8⟩:=hcell k hks
  injection e8 with e8
  injection e8 with e6 e7 _
  subst e6;subst e7
  rw [hdk];exact hc8
 have HDC:=Lib.hid hdc
 have hdb:dk<=1048576:=by rw [hdk];exact Nat.le_trans (prod1_elem hks) hok.2.1
 have HH:Hid (∀ b,H b->b < W.heap.size):=fun b e=>by have:=hH b e;have:=hb.size;omega
 have HB:=Lib.hid hb
 have HIT:=Lib.hid hit
 have HSN:=Lib.hid hsn
 have HOK:=Lib.hid hok
 obtain ⟨LL,hLL⟩:∃ LL,LL=allL a.shape a.len:=⟨_,rfl⟩
 have HAL:=Lib.hid (fun W' (hb':Below w.heap.size w W')=>rall_any (some ⟨b9,o9,none⟩,k+1,hc) a.shape a.len W' (hsn W' hb') (by have:=hok.1;omega) hl)
 rw [<- hLL] at HAL
 have hxn:xn=a.len:=by omega
 rw [<- hxn] at HAL
 have hinr:∀ r∈LL,InSh a.shape r:=by rw [hLL];exact allL_inSh
 have HIN:Hid (∀ i (hi:i < LL.length),InSh a.shape LL[i]):=fun i hi=>hinr _ (List.getElem_mem hi)
 obtain ⟨items,hits⟩:∃ items,items=(revK a).map (elA a):=⟨_,rfl⟩
 have HIL:Hid (items.length=min a.len LL.length):=by unfold Hid;rw [hits,List.length_map];unfold revK;rw [List.length_map,List.length_take,hLL]
 have HIE:Hid (∀ i (hi:i < items.length) (h2:i < LL.length) (h3:plcN a.shape (flipL a.shape LL[i]) < (rawP a).its.length),items[i]=(rawP a).its[plcN a.shape (flipL a.shape LL[i])]):=fun i hi h2 h3=>by
  have e:items[i]?=some (elA a (plcN a.shape (flipL a.shape LL[i]))):=by
   rw [hits]
   unfold revK
   rw [List.map_map,List.getElem?_map,<- hLL,List.getElem?_take_of_lt (by rw [HIL.out] at hi;omega),List.getElem?_eq_getElem h2]
   rfl
  rw [List.getElem?_eq_getElem hi] at e
  rw [Option.some.inj e,<- rawP_at (by omega)]
  simp [List.getD,h3]
 have HPLT:Hid (∀ i (hi:i < LL.length),plcN a.shape (flipL a.shape LL[i]) < (rawP a).its.length):=fun i hi=>by
  have h1:=plcN_lt _ _ (flipL_in (HIN.out i hi))
  rw [hok.2.2] at h1
  omega
 have HRES:Hid (rawP (pkA a.shape a (revK a))= .mk (a.shape.map Int.ofNat) items f):=by unfold Hid;rw [raw_pk,hits,hff]
 rw [HRES.out]
 have HDK:Hid (∀ r:List Nat,r.length=a.shape.length->flipL a.shape r=r.set k (dk - 1 - r.getD k 0)):=fun r _=>by
  unfold flipL
  rw [show a.shape.length - 1=k by omega,show a.shape.getD k 0=dk from by rw [hdk];simp [List.getD,hks]]
 have HKS:Hid (∀ i (hi:i < LL.length),k < LL[i].length/\LL[i].getD k 0 < dk):=fun i hi=>by
  have h1:=(HIN.out i hi).1
  have h2:k < LL[i].length:=by omega
  refine ⟨h2,?_⟩
  have h3:=(HIN.out i hi).2 k h2 hks
  rw [show LL[i].getD k 0=LL[i][k] from by simp [List.getD,h2],hdk]
  exact h3
 have HSR:Hid (RdH H W (sv (some ⟨b9,o9,none⟩,k+1,hc)) ((a.shape.map Int.ofNat).map (Value.int .i64))):=Keeps.lat hsr (Lat.below hb)
 have hk8:k<=7:=by have:=hok.1;omega
 have HXN:=Lib.hid hxn
 have hxb:xn<=1000000:=by omega
 have HS0:=Lib.hid (P1.new W (some ⟨b9,o9,none⟩,k+1,hc) (xA,xn,xc) f)
 have HLEN:Hid (∀ i (hi:i < LL.length),LL[i].length<=8):=fun i hi=>by have h1:=(HIN.out i hi).1;have:=hok.1;omega
 have hki:((k+1:Nat):Int) - 1=(k:Int):=by omega
 dsimp only
 rw [hki]
 obtain ⟨w1,hw1⟩:∃ w1,w1=((W.alloc (plO (some ⟨b9,o9,none⟩,k+1,hc) (xA,xn,xc) f)).alloc (plO nilS nilS 0)).alloc (plO (some ⟨b9,o9,none⟩,k+1,hc) nilS f):=⟨_,rfl⟩
 have HW1:=Lib.hid hw1
 have s2:((W.alloc (plO (some ⟨b9,o9,none⟩,k+1,hc) (xA,xn,xc) f)).alloc (plO nilS nilS 0)).heap.size=W.heap.size+2:=by simp
 have HT1:Hid (TdI H W (some ⟨b9,o9,none⟩,k+1,hc) f (items.take 0) (.slice none 0 0) w1/\P1 W w1 (some ⟨b9,o9,none⟩,k+1,hc) (xA,xn,xc) f):=by
  have h2:=heap_alloc_new ((W.alloc (plO (some ⟨b9,o9,none⟩,k+1,hc) (xA,xn,xc) f)).alloc (plO nilS nilS 0)) (plO (some ⟨b9,o9,none⟩,k+1,hc) nilS f)
  rw [s2,<- hw1] at h2
  have h3:=HS0.out.step (bel1 _ (plO (some ⟨b9,o9,none⟩,k+1,hc) nilS f))
  rw [<- hw1] at h3
  exact ⟨⟨IOwn.nil _ _ _,h2,h3.res,h3.bel⟩,h3⟩
 clear hsr hsr2 hcell g hH hit hok hLL hits hdk hki hw1 hb hn9 hsn hg hff hks hrk hr hil hx hdc hl s2 hxn hinr
 go_enter Tryz.func210,Tryz.ntmps210
 obtain ⟨p0,p1,p2⟩:=at3_c HS0.out.one
 dsimp only at p0 p1
 go_wp2_with fail
 rw [<- HW1.out]
 refine (HAL.out _ (bel_both HB.out HT1.out.2.bel)).mono ?_
 rintro e w2 ⟨lA,ln,lc,rfl,hrows,hb2⟩
 have HT2:Hid (TdI H W (some ⟨b9,o9,none⟩,k+1,hc) f (items.take 0) (.slice none 0 0) w2/\P1 W w2 (some ⟨b9,o9,none⟩,k+1,hc) (xA,xn,xc) f):=⟨HT1.out.1.step hb2,HT1.out.2.step hb2⟩
 have HRW:=Lib.hid (hrows.lower (B':=W.heap.size+3) (by have:=HT1.out.1.sz;omega))
 have hln:ln=LL.length:=hrows.1
 have HLN:=Lib.hid hln
 have HBX:Hid (Lat (fun b=>b < W.heap.size+3) w2 w2):=Lat.below (Below.refl w2.heap.size w2)
 have HLO:Hid (W.heap.size+3<=w2.heap.size):=by unfold Hid;have:=HT2.out.1.sz;omega
 have HTJ:Hid (TdJ H W w2.heap.size (some ⟨b9,o9,none⟩,k+1,hc) f (items.take 0) (.slice none 0 0) w2):=⟨HT2.out.1,IOwn.nil _ _ _⟩
 clear hrows hln hb2 p0 p1 p2 HAL HT1 HW1
 go_wp2
 go_loopw [12] (fun iv wr=>∃ (i:Nat) (v:Value),i<=xn/\iv= .int .i64 (i:Int)/\TdJ H W w2.heap.size (some ⟨b9,o9,none⟩,k+1,hc) f (items.take i) v wr/\P1 W wr (some ⟨b9,o9,none⟩,k+1,hc) (xA,xn,xc) f/\Lat (fun b=>b < W.heap.size+3) w2 wr) (fun iv _=>xn - (intOf iv).toNat)
 case atStart=>exact ⟨0,_,Nat.zero_le _,rfl,HTJ.out,HT2.out.2,HBX.out⟩
 case round =>
  obtain ⟨i,v,hi,rfl,hti,hpi,hbi⟩:=hrel
  have HTI:=Lib.hid hti
  have HPI:=Lib.hid hpi
  have HBI:=Lib.hid hbi
  obtain ⟨vA,vn,vc,hvn⟩:∃ A n c,v= .slice A n c:=by obtain ⟨a,c,e⟩:=hti.own.len;exact ⟨a,_,c,e⟩
  subst hvn
  clear hti hpi hbi HT2 HBX HTJ
  by_cases him:i < xn
  ·have him2:(i:Int) < (xn:Int):=by omega
   by_cases hil:i < ln
   ·have hil2:(i:Int) < (ln:Int):=by omega
    have hiL:i < LL.length:=by have:=HLN.out;omega
    have hit2:i < items.length:=by rw [HIL.out];have:=HXN.out;omega
    obtain ⟨b2,o2,a2,rn,rc,hlA,hrows⟩:=HRW.out.2 i hiL
    have hla:lA=some ⟨b2,o2,none⟩:=hlA
    subst hla
    have HRR:=Lib.hid hrows
    have HPT:=Lib.hid (HPLT.out i hiL)
    have HIX:=Lib.hid (HIE.out i hit2 hiL HPT.out)
    have HIS:=Lib.hid (HIN.out i hiL)
    have HKK:=Lib.hid (HKS.out i hiL)
    have HL8:=Lib.hid (HLEN.out i hiL)
    have HFL:=Lib.hid (HDK.out LL[i] (HIN.out i hiL).1)
    have HTK:Hid (items.take (i+1)=items.take i++[items[i]]):=List.take_succ_eq_append_getElem hit2
    have hlb:(items.take i).length<=1048576:=by rw [List.length_take];omega
    have HLB:=Lib.hid hlb
    generalize LL[i]=r at *
    generalize items[i]=li at HTK HIX
    obtain ⟨x0,hx0⟩:∃ x0,x0=r.getD k 0:=⟨_,rfl⟩
    rw [<- hx0] at HFL HKK
    have HX0:=Lib.hid hx0
    have hxd:x0 < dk:=HKK.out.2
    obtain ⟨pl,hpl⟩:∃ pl,pl=plcN a.shape (flipL a.shape r):=⟨_,rfl⟩
    have HPLE:=Lib.hid hpl
    have hplt:pl < (rawP a).its.length:=by rw [hpl];exact HPT.out
    obtain ⟨bi,oi,ki,ni,ci,yi,hxA,-,hiv,hat⟩:=HIT.out pl hplt
    subst hxA
    have HAT:=Lib.hid hat
    have HLI:Hid (li=(rawP a).its[pl]):=by unfold Hid;rw [HIX.out];simp only [hpl]
    have HIV:Hid (IV H w li ki ni ci yi):=by unfold Hid;rw [HLI.out];exact hiv
    have hplx:pl < xn:=by have:=HXN.out;have:=rawP_len a;omega
    have hplx2:(pl:Int) < (xn:Int):=by omega
    have hpl0:(0:Int)<=(pl:Int):=by omega
    have hkx:k < r.length:=HKK.out.1
    have HE0:Hid (Own1 (wr.alloc (.cells #[] 3)) wr.heap.size 3 (.slice (some ⟨wr.heap.size,0,none⟩) 0 0) []):=World.ownsRow_lit (base:=wr.heap.size) (e:=3) (size:=1) wr #[] 0 (Nat.le_refl _) (by decide) rfl
    have HBA:=Lib.hid (bel1 wr (.cells #[] 3))
    have HRA:=Lib.hid (HRR.out _ (HBI.out.trans (Lat.below HBA.out)))
    obtain ⟨rcell,-⟩:=HRR.out _ (HBI.out.trans (Lat.below HBA.out))
    have HRM:Hid (rn=r.length):=by
     obtain ⟨A9,c9,e9⟩:=HRA.out.2.len
     rw [List.length_map] at e9
     injection e9 with _ e9 _
    have HL3:Hid (([]:List Value).length+rn<=4194304):=by unfold Hid;rw [HRM.out];have:=HL8.out;simp;omega
    have hw0:wr.heap.size<=(wr.alloc (.cells #[] 3)).heap.size:=by simp
    have hxi:(dk:Int) - 1 - (x0:Int)=((dk - 1 - x0:Nat):Int):=by omega
    obtain ⟨yy,hyy⟩:∃ yy,yy=dk - 1 - x0:=⟨_,rfl⟩
    rw [<- hyy] at HFL hxi
    have hyb:yy<=1048576:=by omega
    have hkr:(k:Int) < (r.length:Int):=by omega
    have hk1:(k:Int) < ((k+1:Nat):Int):=by omega
    clear hlA hrows hlb hx0 hpl hiv hat hyy HLI hplt hit2
    go_wp2_with (at_builtin;refine wpList_pushM rfl (.tmp 41) (.tmp 45) rfl wr.heap.size (.slice (some ⟨wr.heap.size,0,none⟩) 0 0) [] rfl HE0.out a2 rn rc (r.map natV) rfl HRA.out.2 nat_one HL3.out hw0 ?_;intro v1 w1 ho1 hb1;rw [List.nil_append] at ho1;(obtain ⟨g1,c1,hv1,hgl,hck,hfz,hpt⟩:=own_nat ho1 hkx);subst hv1;have HPT1:=Lib.hid hpt;have HB1:=Lib.hid (hb1 wr HBA.out);have HP1:=Lib.hid (HPI.out.step HB1.out);have HGL:=Lib.hid hgl;(obtain ⟨p0,p1,p2⟩:=at3_c HP1.out.one);dsimp only at p0 p1;have cdk:=cell_up (bel_both HB.out HP1.out.bel) HDC.out;rw [show r.getD k 0=x0 from HX0.out.symm] at hck;clear ho1 hb1 hpt hgl)
    have hb3:Below wr.heap.size wr (w1.setCell ⟨g1,k,none⟩ (.int .i64 (yy:Int))):=HB1.out.setCell HGL.out.1 _
    have HR3:=Lib.hid (HPT1.out yy)
    generalize hw3:w1.setCell ⟨g1,k,none⟩ (.int .i64 (yy:Int))=w3 at *
    have HB3:=Lib.hid hb3.drew
    have HT3:=Lib.hid ((HTI.out.step hb3).step (Below.refl _ w3).drew)
    have HP3:=Lib.hid ((HPI.out.step hb3).step (Below.refl _ w3).drew)
    clear p0 p1 p2 cdk hb3 hw3 rcell HPT1 HB1 HP1 HGL HBA HRA HE0 HL3 HRM HPI HTI
    have HIS3:Hid (InSh a.shape (r.set k yy)):=by have h1:=flipL_in HIS.out;rw [HFL.out] at h1;exact h1
    have HPC:=Lib.hid (rplace_any (some ⟨b9,o9,none⟩,k+1,hc) (some ⟨g1,0,none⟩,r.length,c1) a.shape (r.set k yy) a.len w3.drew (HSN.out _ (bel_both HB.out HP3.out.bel)) (show Reads1 w3.drew _ _ from HR3.out) HOK.out HIS3.out)
    rw [<- HFL.out,<- HPLE.out] at HPC
    have HAVF:Hid (∀ W',TdJ H W w2.heap.size (some ⟨b9,o9,none⟩,k+1,hc) f (items.take i) (.slice vA vn vc) W'->IV (fun b=>(fun b=>H b\/b=W.heap.size+1\/b=W.heap.size+2) b\/(Value.slice vA vn vc).ownBlock=some b) W' li ki ni ci yi):=fun W' g9=>((IV.sub (fun b hb9 e9=>by
     have hsz:=HB.out.size
     rcases e9 with (e9 | e9 | e9) | e9
     ·exact e9
     ·omega
     ·omega
     ·have:=(g9.own.own_lt e9).1;have:=HLO.out;omega) HIV.out).step HB.out).step g9.td.bel
    obtain ⟨p0,p1,p2⟩:=at3_c HP3.out.one
    obtain ⟨⟨q0,q1,q2⟩,qz⟩:=block3 (show w3.drew.heap[W.heap.size+1+1]?=_ from HT3.out.td.out)
    obtain ⟨a0,a1,a2,a3⟩:=HAT.out w3.drew (Lat.below (bel_both HB.out HP3.out.bel))
    dsimp only [sv] at p0 p1 q0 a3
    go_region_law (first | (refine step_pushI rfl (.tmp 103) (.tmp 112) rfl (fun b=>H b\/b=W.heap.size+1\/b=W.heap.size+2) w2.heap.size (.slice vA vn vc) (items.take i) (by rfl) HTW.out.own ⟨ki,ni,ci,yi⟩ li HAV.out w5.heap.size HBK.out (by rfl) HLB.out HSZ.out ?_;intro vA' vn' vc' w' hown' hbw;have HBW:=Lib.hid (hbw _ (Below.refl _ _));have HTP:=Lib.hid (HTW.out.push HH.out HLO.out hown' HBW.out);have HPP:=Lib.hid ((HPW.out.up (HBW.out.mono (by have:=HLO.out;omega))).up ((Below.refl (W.heap.size+2) w').setCell (p:=⟨W.heap.size+2,1,none⟩) (Nat.le_refl _) (.slice vA' vn' vc')));(obtain ⟨⟨y0,y1,y2⟩,yz⟩:=block3 (show w'.heap[W.heap.size+1+1]?=_ from (HBW.out.block _ (by have:=HLO.out;omega)).trans HTW.out.td.out));clear hown' hbw) | (go_simp;go_at_call 244;refine HPC.out.mono ?_;rintro e w5 ⟨rfl,hb5⟩;have HT5:=Lib.hid (HT3.out.step hb5);have HP5:=Lib.hid (HP3.out.step hb5);(obtain ⟨c0,c1,c2⟩:=at3_c HP5.out.one);(obtain ⟨⟨d0,d1,d2⟩,dz⟩:=block3 (show w5.heap[W.heap.size+1+1]?=_ from HT5.out.td.out));(obtain ⟨e0,e1,e2,e3⟩:=HAT.out w5 (Lat.below (bel_both HB.out HP5.out.bel)));have HBX:=Lib.hid (bel1 w5 (itO ki ni ci yi));have HTW:=Lib.hid (HT5.out.step HBX.out);have HPW:=Lib.hid (HP5.out.step HBX.out);(obtain ⟨s0,s1,s2⟩:=at3_c HPW.out.one);(obtain ⟨⟨t0,t1,t2⟩,tz⟩:=block3 (show (w5.alloc (itO ki ni ci yi)).heap[W.heap.size+1+1]?=_ from HTW.out.td.out));dsimp only [sv] at c0 c1 d0 e3 s0 s1 t0;have HBK:Hid ((w5.alloc (itO ki ni ci yi)).heap[w5.heap.size]?=some (itO ki ni ci yi)):=heap_alloc_new w5 _;have HAV:=Lib.hid (HAVF.out _ HTW.out);have HSZ:Hid (w2.heap.size<=(w5.alloc (itO ki ni ci yi)).heap.size):=(by unfold Hid;have:=HBX.out.size;have:=hb5.size;have e7:w3.drew.heap.size=w3.heap.size:=rfl;have:=HB3.out.size;have:=HBI.out.size;omega);have HB8:=Lib.hid (((HBI.out.trans (Lat.below HB3.out)).trans (Lat.below hb5)).trans (Lat.below HBX.out));have hst:=fun md=>st_item w5 ki 0 ni 0 (.slice none 0 0) 106 md))
    all_goals
     go_wp2
     go_roundw
     case rel=>exact ⟨i+1,_,by omega,by go_num,by rw [HTK.out];exact HTP.out,HPP.out,(Lat.trans ⟨Nat.le_trans HB8.out.size HBW.out.size,fun b hb hn=>(HBW.out.block b hb).trans (HB8.out.block b hb hn)⟩ (Lat.set (a:=⟨W.heap.size+2,1,none⟩) (by show W.heap.size+2 < W.heap.size+3;omega) _))⟩
     case measure=>simp [intOf];omega
   ·have hil2:¬ (i:Int) < (ln:Int):=by omega
    have HTL:Hid (items.take i=items):=by unfold Hid;have h8:=HIL.out;have h7:=HXN.out;have h6:=HLN.out;exact List.take_of_length_le (by omega)
    obtain ⟨x',hx',hpv⟩:=HTI.out.td.done HH.out HSR.out (sv (some ⟨b9,o9,none⟩,k+1,hc)) (.slice vA vn vc) (.int .i64 f)
    rw [HTL.out] at hpv
    have HPV:=Lib.hid hpv
    have HRB:=Lib.hid (set3_block HTI.out.td.res (sv (some ⟨b9,o9,none⟩,k+1,hc)) (.slice vA vn vc) (.int .i64 f))
    have HBB:=Lib.hid (below_set3 HTI.out.td.bel (G:=W.heap.size+1) (Nat.le_succ _) (sv (some ⟨b9,o9,none⟩,k+1,hc)) (.slice vA vn vc) (.int .i64 f))
    obtain ⟨xA9,xn9,xc9⟩:=x'
    have h9:Value.slice vA vn vc= .slice xA9 xn9 xc9:=hx'
    injection h9 with h10 h11 h12
    subst h10;subst h11;subst h12
    obtain ⟨⟨y0,y1,y2⟩,yz⟩:=block3 (show wr.heap[W.heap.size+1+1]?=_ from HTI.out.td.out)
    obtain ⟨⟨z0,z1,z2⟩,zz⟩:=block3 HTI.out.td.res
    dsimp only [sv] at y0
    clear hpv hx'
    go_wp2
    all_goals
     refine bodyPost_ret (v:=plV (some ⟨b9,o9,none⟩,k+1,hc) (vA,vn,vc) f) ?_ rfl (pzR_of HPV.out HBB.out)
     exact ret_plain (fn:=Tryz.f210) (p:=8) rfl _ _ (W.heap.size+1) (by rfl) HRB.out
  ·have him2:¬ (i:Int) < (xn:Int):=by omega
   have HTL:Hid (items.take i=items):=by unfold Hid;have h8:=HIL.out;have h7:=HXN.out;have h6:=HLN.out;exact List.take_of_length_le (by omega)
   obtain ⟨x',hx',hpv⟩:=HTI.out.td.done HH.out HSR.out (sv (some ⟨b9,o9,none⟩,k+1,hc)) (.slice vA vn vc) (.int .i64 f)
   rw [HTL.out] at hpv
   have HPV:=Lib.hid hpv
   have HRB:=Lib.hid (set3_block HTI.out.td.res (sv (some ⟨b9,o9,none⟩,k+1,hc)) (.slice vA vn vc) (.int .i64 f))
   have HBB:=Lib.hid (below_set3 HTI.out.td.bel (G:=W.heap.size+1) (Nat.le_succ _) (sv (some ⟨b9,o9,none⟩,k+1,hc)) (.slice vA vn vc) (.int .i64 f))
   obtain ⟨xA9,xn9,xc9⟩:=x'
   have h9:Value.slice vA vn vc= .slice xA9 xn9 xc9:=hx'
   injection h9 with h10 h11 h12
   subst h10;subst h11;subst h12
   obtain ⟨⟨y0,y1,y2⟩,yz⟩:=block3 (show wr.heap[W.heap.size+1+1]?=_ from HTI.out.td.out)
   obtain ⟨⟨z0,z1,z2⟩,zz⟩:=block3 HTI.out.td.res
   dsimp only [sv] at y0
   clear hpv hx'
   go_wp2
   all_goals
    refine bodyPost_ret (v:=plV (some ⟨b9,o9,none⟩,k+1,hc) (vA,vn,vc) f) ?_ rfl (pzR_of HPV.out HBB.out)
    exact ret_plain (fn:=Tryz.f210) (p:=8) rfl _ _ (W.heap.size+1) (by rfl) HRB.out
end Go.Proofs.YtbakjaliponbbaaGreatDoor
