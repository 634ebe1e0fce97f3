/- The reference's Join. Printed by gen_trxb.py. The reference's All: parts of a text, one behind the other. Printed by .. Conditions: as each theorem says. -/
import Derived.Test.YtbakjaliponbbaaGreatDoorMg20
set_option maxRecDepth 100000
set_option maxHeartbeats 3200000
namespace Go.Proofs.YtbakjaliponbbaaGreatDoor
open Go Go.RowKit Go.Proofs Fl
theorem bel_grown {B:Nat}{w0 w w':World}{v:Value}{l:List Int} (hb:Below B w0 w) (hown:OwnR w B v l) (hg:w.grownBy w' v.ownBlock) (hB:B<=w.heap.size):Below B w0 w' :=
 hb.grown hg hB fun k hk=>(World.ownsRow.lt hown k hk).1
theorem ownR_zero (w:World):OwnR (w.alloc (.cells #[] 21)) w.heap.size (.slice (some ⟨w.heap.size,0,none⟩) 0 0) [] :=
 ⟨by simp,.inr ⟨w.heap.size,0,#[],rfl,Nat.le_refl _,heap_alloc_new w _,Nat.le_refl _,by unfold maxLen;omega,by simp,by simp⟩⟩
theorem ownR_zeroB {w:World}{B:Nat} (hB:B<=w.heap.size):OwnR (w.alloc (.cells #[] 21)) B (.slice (some ⟨w.heap.size,0,none⟩) 0 0) []:=(ownR_zero w).lower hB
def SgA (w:World) (b o:Nat) (s:List Int):Prop:=∀ W,Below w.heap.size w W->∀ i (h:i < s.length),W.cell? ⟨b,o+i,none⟩=some (.int .i32 s[i])
theorem SgA.of {w:World}{b o n c:Nat}{s:List Int} (h:Runes w (.slice (some ⟨b,o,none⟩) n c) s):SgA w b o s:=by
 intro W hb i hi
 rcases h with ⟨a,c',e,rfl⟩ | ⟨b',o',n',c',e,hn,hc⟩
 ·exact absurd hi (by simp)
 ·simp only [Value.slice.injEq,Option.some.injEq,Addr.mk.injEq,and_true] at e
  obtain ⟨⟨rfl,rfl⟩,rfl,rfl⟩:=e
  rw [hb.cell (cell_lt (hc i hi))];exact hc i hi
theorem own_form {w:World}{B n c:Nat}{A:Option Addr}{l:List Int} (h:OwnR w B (.slice A n c) l) (hl:l≠[]):∃ g,A=some ⟨g,0,none⟩/\n=l.length/\SgA w g 0 l:=by
 obtain ⟨g,cc,e,_⟩:=h.form hl
 simp only [Value.slice.injEq] at e
 obtain ⟨rfl,rfl,rfl⟩:=e
 exact ⟨g,rfl,rfl,SgA.of h.runes⟩
theorem join_nil (b o n c:Nat) (s:List Int) (w:World) (hs:SgA w b o s) (hn:Hid (n=s.length)) (hne:s≠[]) (hl:s.length<=1099511627000) :
  Calls Tryz.prog 88 #[.slice none 0 0,.slice (some ⟨b,o,none⟩) n c] w fun e w'=>∃ A n k,e= .returned (.slice A n k)/\OwnR w' w.heap.size (.slice A n k) (s)/\Below w.heap.size w w':=by
 have HS:=Lib.hid hs
 have HL:=Lib.hid hl
 have hn1:0 < n:=by rw [hn.out];exact List.length_pos_iff.2 hne
 have HB0:=Lib.hid (bel1 w (.cells #[] 21))
 have HO0:=Lib.hid (ownR_zero w)
 clear hs hl hne
 go_enter Tryz.func88,Tryz.ntmps88
 go_wp2_with (at_builtin;refine wpList_appG rfl _ _ rfl w.heap.size HB0.out.size _ [] rfl HO0.out b o n c s hn.out rfl (HS.out _ HB0.out) (by simp;have:=HL.out;omega) ?_;intro av1 nn1 cv1 w1 hown hg _;have HB1:=Lib.hid (bel_grown HB0.out HO0.out hg HB0.out.size);have HO1:=Lib.hid hown;clear hown hg)
 go_ret
 exact ⟨_,_,_,rfl,HO1.out,HB1.out⟩
theorem join_blank (r ro b o n c m k:Nat) (l s:List Int) (x y:Int) (w:World) (ha:SgA w r ro (l++[x])) (hs:SgA w b o (y::s)) (hm:Hid (m=(l++[x]).length)) (hn:Hid (n=(y::s).length)) (hl:l.length+s.length<=1099511627000) (hB:blankB x y=true) :
  Calls Tryz.prog 88 #[.slice (some ⟨r,ro,none⟩) m k,.slice (some ⟨b,o,none⟩) n c] w fun e w'=>∃ A n k,e= .returned (.slice A n k)/\OwnR w' w.heap.size (.slice A n k) (l++[x]++[32]++y::s)/\Below w.heap.size w w':=by
 have hlast:=ha w (Below.refl _ _) l.length (by simp)
 rw [List.getElem_append_right (Nat.le_refl _)] at hlast
 simp only [Nat.sub_self,List.getElem_singleton] at hlast
 have hhead:=hs w (Below.refl _ _) 0 (by simp)
 simp only [List.getElem_cons_zero,Nat.add_zero] at hhead
 have hn1:0 < n:=by rw [hn.out];simp
 obtain ⟨j,hj⟩:∃ j,j=l.length:=⟨_,rfl⟩
 rw [<- hj] at hlast
 obtain rfl:m=j+1:=by rw [hm.out,hj];simp
 have hk2:j<=1099511627000:=by omega
 have HA:=Lib.hid ha
 have HS:=Lib.hid hs
 have HL:=Lib.hid hl
 have HX:=Lib.hid (rwordy_walk x)
 have HYY:=Lib.hid (rwordy_walk y)
 have hq1:=wrap_pred hk2
 have hways:(wordyB x=true/\wordyB y=true)\/(x=39/\y=39):=by
  unfold blankB at hB;simpa using hB
 clear ha hs hl hj hB
 rcases hways with ⟨hx,hy⟩ | ⟨rfl,rfl⟩
 ·rw [hx] at HX
  rw [hy] at HYY
  clear hx hy
  go_enter Tryz.func88,Tryz.ntmps88
  go_wp2_with fail
  go_quiet (fail)
  rename_i nq
  have HB1:Hid (Below w.heap.size w (w.drewN nq)):=Below.drewN2 (Below.refl _ w) nq
  clear hlast hhead hq1
  generalize w.drewN nq=w1 at *
  have HB2:Hid (Below w.heap.size w (w1.alloc (.cells #[] 21))):=HB1.out.trans ((bel1 w1 _).mono HB1.out.size)
  have HO2:=Lib.hid (ownR_zeroB HB1.out.size)
  go_wp2_with fail
  (with_reducible refine (HX.out _).mono ?_)
  rintro e w' ⟨rfl,rfl⟩
  go_wp2_with fail
  (with_reducible refine (HYY.out _).mono ?_)
  rintro e w' ⟨rfl,rfl⟩
  go_wp2_with (first | (at_builtin;refine wpList_appG rfl _ _ rfl w.heap.size HB2.out.size _ [] rfl HO2.out r ro (j+1) k (l++[x]) hm.out rfl (HA.out _ HB2.out) (by simp;have:=HL.out;omega) ?_;intro av3 nn3 cv3 w3 hown hg _;have HB3:=Lib.hid (bel_grown HB2.out HO2.out hg HB2.out.size);have HO3:=Lib.hid hown;clear hown hg) | (at_builtin;refine wpList_app1 rfl (.tmp 40) (.tmp 41) rfl w.heap.size _ ([]++(l++[x])) (by rfl) HO3.out 32 (by rfl) (by simp;have:=HL.out;omega) HB3.out.size ?_;intro v4 w4 hv hbb _ _;have HB4:=Lib.hid (hbb w HB3.out);obtain ⟨n4,hn4⟩:∃ n,n=([]++(l++[x])++[32]).length:=⟨_,rfl⟩;obtain ⟨av4,cv4,hvv⟩:=hv.len;rw [<- hn4] at hvv;subst hvv;obtain ⟨g4,rfl,-,hsg⟩:=own_form hv (by simp);have HN4:=Lib.hid hn4;have HSG:=Lib.hid hsg;have HB5:Hid (Below w.heap.size w (w4.alloc (.cells #[] 21))):=HB4.out.trans ((bel1 w4 _).mono HB4.out.size);have HO5:=Lib.hid (ownR_zeroB HB4.out.size);clear hv hbb hn4 hsg) | (at_builtin;refine wpList_appG rfl _ _ rfl w.heap.size HB5.out.size _ [] rfl HO5.out g4 0 n4 cv4 ([]++(l++[x])++[32]) HN4.out rfl (HSG.out _ (bel1 w4 _)) (by simp;have:=HL.out;omega) ?_;intro av6 nn6 cv6 w6 hown hg _;have HB6:=Lib.hid (bel_grown HB5.out HO5.out hg HB5.out.size);have HO6:=Lib.hid hown;clear hown hg) | (at_builtin;refine wpList_appG rfl _ _ rfl w.heap.size HB6.out.size _ ([]++([]++(l++[x])++[32])) rfl HO6.out b o n c (y::s) hn.out rfl (HS.out _ HB6.out) (by simp;have:=HL.out;omega) ?_;intro av7 nn7 cv7 w7 hown hg _;have HB7:=Lib.hid (bel_grown HB6.out HO6.out hg HB6.out.size);have HO7:=Lib.hid hown;clear hown hg))
  go_ret
  exact ⟨_,_,_,rfl,by have h:=HO7.out;simpa using h,HB7.out⟩
 ·have hx:wordyB 39=false:=by decide
  rw [hx] at HX
  clear hx HYY
  go_enter Tryz.func88,Tryz.ntmps88
  go_wp2_with fail
  go_quiet (fail)
  rename_i nq
  have HB1:Hid (Below w.heap.size w (w.drewN nq)):=Below.drewN2 (Below.refl _ w) nq
  clear hlast hhead hq1
  generalize w.drewN nq=w1 at *
  have HB2:Hid (Below w.heap.size w (w1.alloc (.cells #[] 21))):=HB1.out.trans ((bel1 w1 _).mono HB1.out.size)
  have HO2:=Lib.hid (ownR_zeroB HB1.out.size)
  go_wp2_with fail
  (with_reducible refine (HX.out _).mono ?_)
  rintro e w' ⟨rfl,rfl⟩
  go_wp2_with (first | (at_builtin;refine wpList_appG rfl _ _ rfl w.heap.size HB2.out.size _ [] rfl HO2.out r ro (j+1) k (l++[39]) hm.out rfl (HA.out _ HB2.out) (by simp;have:=HL.out;omega) ?_;intro av3 nn3 cv3 w3 hown hg _;have HB3:=Lib.hid (bel_grown HB2.out HO2.out hg HB2.out.size);have HO3:=Lib.hid hown;clear hown hg) | (at_builtin;refine wpList_app1 rfl (.tmp 40) (.tmp 41) rfl w.heap.size _ ([]++(l++[39])) (by rfl) HO3.out 32 (by rfl) (by simp;have:=HL.out;omega) HB3.out.size ?_;intro v4 w4 hv hbb _ _;have HB4:=Lib.hid (hbb w HB3.out);obtain ⟨n4,hn4⟩:∃ n,n=([]++(l++[39])++[32]).length:=⟨_,rfl⟩;obtain ⟨av4,cv4,hvv⟩:=hv.len;rw [<- hn4] at hvv;subst hvv;obtain ⟨g4,rfl,-,hsg⟩:=own_form hv (by simp);have HN4:=Lib.hid hn4;have HSG:=Lib.hid hsg;have HB5:Hid (Below w.heap.size w (w4.alloc (.cells #[] 21))):=HB4.out.trans ((bel1 w4 _).mono HB4.out.size);have HO5:=Lib.hid (ownR_zeroB HB4.out.size);clear hv hbb hn4 hsg) | (at_builtin;refine wpList_appG rfl _ _ rfl w.heap.size HB5.out.size _ [] rfl HO5.out g4 0 n4 cv4 ([]++(l++[39])++[32]) HN4.out rfl (HSG.out _ (bel1 w4 _)) (by simp;have:=HL.out;omega) ?_;intro av6 nn6 cv6 w6 hown hg _;have HB6:=Lib.hid (bel_grown HB5.out HO5.out hg HB5.out.size);have HO6:=Lib.hid hown;clear hown hg) | (at_builtin;refine wpList_appG rfl _ _ rfl w.heap.size HB6.out.size _ ([]++([]++(l++[39])++[32])) rfl HO6.out b o n c (39::s) hn.out rfl (HS.out _ HB6.out) (by simp;have:=HL.out;omega) ?_;intro av7 nn7 cv7 w7 hown hg _;have HB7:=Lib.hid (bel_grown HB6.out HO6.out hg HB6.out.size);have HO7:=Lib.hid hown;clear hown hg))
  go_ret
  exact ⟨_,_,_,rfl,by have h:=HO7.out;simpa using h,HB7.out⟩
theorem join_plain (r ro b o n c m k:Nat) (l s:List Int) (x y:Int) (w:World) (ha:SgA w r ro (l++[x])) (hs:SgA w b o (y::s)) (hm:Hid (m=(l++[x]).length)) (hn:Hid (n=(y::s).length)) (hl:l.length+s.length<=1099511627000) (hB:blankB x y=false) :
  Calls Tryz.prog 88 #[.slice (some ⟨r,ro,none⟩) m k,.slice (some ⟨b,o,none⟩) n c] w fun e w'=>∃ A n k,e= .returned (.slice A n k)/\OwnR w' w.heap.size (.slice A n k) (l++[x]++y::s)/\Below w.heap.size w w':=by
 have hlast:=ha w (Below.refl _ _) l.length (by simp)
 rw [List.getElem_append_right (Nat.le_refl _)] at hlast
 simp only [Nat.sub_self,List.getElem_singleton] at hlast
 have hhead:=hs w (Below.refl _ _) 0 (by simp)
 simp only [List.getElem_cons_zero,Nat.add_zero] at hhead
 have hn1:0 < n:=by rw [hn.out];simp
 obtain ⟨j,hj⟩:∃ j,j=l.length:=⟨_,rfl⟩
 rw [<- hj] at hlast
 obtain rfl:m=j+1:=by rw [hm.out,hj];simp
 have hk2:j<=1099511627000:=by omega
 have HA:=Lib.hid ha
 have HS:=Lib.hid hs
 have HL:=Lib.hid hl
 have HX:=Lib.hid (rwordy_walk x)
 have HYY:=Lib.hid (rwordy_walk y)
 have hq1:=wrap_pred hk2
 have hways:(wordyB x=false/\(x==39)=false)\/(wordyB x=false/\x=39/\(y==39)=false)\/(wordyB x=true/\wordyB y=false/\(x==39)=false):=by
  have h39:wordyB 39=false:=by decide
  unfold blankB at hB
  simp only [Bool.or_eq_false_iff,Bool.and_eq_false_iff,decide_eq_false_iff_not] at hB
  cases hx:wordyB x with
  | false =>
   by_cases h:x=39
   ·exact .inr (.inl ⟨rfl,h,by simpa [h] using hB.2⟩)
   ·exact .inl ⟨rfl,by simpa using h⟩
  | true =>
   refine .inr (.inr ⟨rfl,by simpa [hx] using hB.1,?_⟩)
   by_cases h:x=39
   ·rw [h,h39] at hx;cases hx
   ·simpa using h
 clear ha hs hl hj hB
 rcases hways with ⟨hx,h39⟩ | ⟨hx,rfl,h39⟩ | ⟨hx,hy,h39⟩
 ·rw [hx] at HX
  clear hx HYY
  go_enter Tryz.func88,Tryz.ntmps88
  go_wp2_with fail
  go_quiet (fail)
  rename_i nq
  have HB1:Hid (Below w.heap.size w (w.drewN nq)):=Below.drewN2 (Below.refl _ w) nq
  clear hlast hhead hq1
  generalize w.drewN nq=w1 at *
  have HB2:Hid (Below w.heap.size w (w1.alloc (.cells #[] 21))):=HB1.out.trans ((bel1 w1 _).mono HB1.out.size)
  have HO2:=Lib.hid (ownR_zeroB HB1.out.size)
  go_wp2_with fail
  (with_reducible refine (HX.out _).mono ?_)
  rintro e w' ⟨rfl,rfl⟩
  go_wp2_with (first | (at_builtin;refine wpList_appG rfl _ _ rfl w.heap.size HB2.out.size _ [] rfl HO2.out r ro (j+1) k (l++[x]) hm.out rfl (HA.out _ HB2.out) (by simp;have:=HL.out;omega) ?_;intro av6 nn6 cv6 w6 hown hg _;have HB6:=Lib.hid (bel_grown HB2.out HO2.out hg HB2.out.size);have HO6:=Lib.hid hown;clear hown hg) | (at_builtin;refine wpList_appG rfl _ _ rfl w.heap.size HB6.out.size _ ([]++(l++[x])) rfl HO6.out b o n c (y::s) hn.out rfl (HS.out _ HB6.out) (by simp;have:=HL.out;omega) ?_;intro av7 nn7 cv7 w7 hown hg _;have HB7:=Lib.hid (bel_grown HB6.out HO6.out hg HB6.out.size);have HO7:=Lib.hid hown;clear hown hg))
  go_ret
  exact ⟨_,_,_,rfl,by have h:=HO7.out;simpa using h,HB7.out⟩
 ·rw [hx] at HX
  clear hx HYY
  go_enter Tryz.func88,Tryz.ntmps88
  go_wp2_with fail
  go_quiet (fail)
  rename_i nq
  have HB1:Hid (Below w.heap.size w (w.drewN nq)):=Below.drewN2 (Below.refl _ w) nq
  clear hlast hhead hq1
  generalize w.drewN nq=w1 at *
  have HB2:Hid (Below w.heap.size w (w1.alloc (.cells #[] 21))):=HB1.out.trans ((bel1 w1 _).mono HB1.out.size)
  have HO2:=Lib.hid (ownR_zeroB HB1.out.size)
  go_wp2_with fail
  (with_reducible refine (HX.out _).mono ?_)
  rintro e w' ⟨rfl,rfl⟩
  go_wp2_with (first | (at_builtin;refine wpList_appG rfl _ _ rfl w.heap.size HB2.out.size _ [] rfl HO2.out r ro (j+1) k (l++[39]) hm.out rfl (HA.out _ HB2.out) (by simp;have:=HL.out;omega) ?_;intro av6 nn6 cv6 w6 hown hg _;have HB6:=Lib.hid (bel_grown HB2.out HO2.out hg HB2.out.size);have HO6:=Lib.hid hown;clear hown hg) | (at_builtin;refine wpList_appG rfl _ _ rfl w.heap.size HB6.out.size _ ([]++(l++[39])) rfl HO6.out b o n c (y::s) hn.out rfl (HS.out _ HB6.out) (by simp;have:=HL.out;omega) ?_;intro av7 nn7 cv7 w7 hown hg _;have HB7:=Lib.hid (bel_grown HB6.out HO6.out hg HB6.out.size);have HO7:=Lib.hid hown;clear hown hg))
  go_ret
  exact ⟨_,_,_,rfl,by have h:=HO7.out;simpa using h,HB7.out⟩
 ·rw [hx] at HX
  rw [hy] at HYY
  clear hx hy
  go_enter Tryz.func88,Tryz.ntmps88
  go_wp2_with fail
  go_quiet (fail)
  rename_i nq
  have HB1:Hid (Below w.heap.size w (w.drewN nq)):=Below.drewN2 (Below.refl _ w) nq
  clear hlast hhead hq1
  generalize w.drewN nq=w1 at *
  have HB2:Hid (Below w.heap.size w (w1.alloc (.cells #[] 21))):=HB1.out.trans ((bel1 w1 _).mono HB1.out.size)
  have HO2:=Lib.hid (ownR_zeroB HB1.out.size)
  go_wp2_with fail
  (with_reducible refine (HX.out _).mono ?_)
  rintro e w' ⟨rfl,rfl⟩
  go_wp2_with fail
  (with_reducible refine (HYY.out _).mono ?_)
  rintro e w' ⟨rfl,rfl⟩
  go_wp2_with (first | (at_builtin;refine wpList_appG rfl _ _ rfl w.heap.size HB2.out.size _ [] rfl HO2.out r ro (j+1) k (l++[x]) hm.out rfl (HA.out _ HB2.out) (by simp;have:=HL.out;omega) ?_;intro av6 nn6 cv6 w6 hown hg _;have HB6:=Lib.hid (bel_grown HB2.out HO2.out hg HB2.out.size);have HO6:=Lib.hid hown;clear hown hg) | (at_builtin;refine wpList_appG rfl _ _ rfl w.heap.size HB6.out.size _ ([]++(l++[x])) rfl HO6.out b o n c (y::s) hn.out rfl (HS.out _ HB6.out) (by simp;have:=HL.out;omega) ?_;intro av7 nn7 cv7 w7 hown hg _;have HB7:=Lib.hid (bel_grown HB6.out HO6.out hg HB6.out.size);have HO7:=Lib.hid hown;clear hown hg))
  go_ret
  exact ⟨_,_,_,rfl,by have h:=HO7.out;simpa using h,HB7.out⟩
theorem rjoin_any {F F':Nat->Prop} (A A':Option Addr) (n c n' c':Nat) (s s':List Int) (w:World) (h:RunQ F w A n s) (h':RunQ F' w A' n' s') (hne:s'≠[]) (hl:s.length+s'.length<=1099511627000) (hA:s=[]->A=none/\c=0) :
  Calls Tryz.prog 88 #[.slice A n c,.slice A' n' c'] w fun e w'=>∃ B m k,e= .returned (.slice B m k)/\RunQ (fun b=>w.heap.size<=b) w' B m (joinP s s')/\Below w.heap.size w w':=by
 have key:∀ t,t=joinP s s'->Calls Tryz.prog 88 #[.slice A n c,.slice A' n' c'] w (fun e w'=>∃ A n k,e= .returned (.slice A n k)/\OwnR w' w.heap.size (.slice A n k) (t)/\Below w.heap.size w w')->Calls Tryz.prog 88 #[.slice A n c,.slice A' n' c'] w fun e w'=>∃ B m k,e= .returned (.slice B m k)/\RunQ (fun b=>w.heap.size<=b) w' B m (joinP s s')/\Below w.heap.size w w':=by
  intro t ht hc
  refine hc.mono ?_
  rintro e w' ⟨B,m,k,he,ho,hb⟩
  exact ⟨B,m,k,he,by rw [<- ht];exact runQ_own ho,hb⟩
 obtain ⟨b,o,rfl,_,_⟩:=h'.2 0 (List.length_pos_iff.2 hne)
 have hs':=SgA.of (h'.runes (c:=c'))
 cases s with
 | nil =>
  obtain ⟨rfl,rfl⟩:=hA rfl
  obtain rfl:n=0:=h.1
  exact key s' (by rw [joinP_nil]) (join_nil b o n' c' s' w hs' h'.1 hne (by simpa using hl))
 | cons x0 r =>
  obtain ⟨g,go',rfl,_,_⟩:=h.2 0 (by simp)
  have hs:=SgA.of (h.runes (c:=c))
  obtain ⟨l,x,hx⟩:∃ l x,x0::r=l++[x]:=⟨(x0::r).dropLast,(x0::r).getLast (by simp),(List.dropLast_concat_getLast _).symm⟩
  obtain ⟨y,s2,rfl⟩:∃ y s2,s'=y::s2:=by cases s' with | nil=>exact absurd rfl hne | cons y r=>exact ⟨y,r,rfl⟩
  rw [hx] at h hs hl
  have hlen:l.length+s2.length<=1099511627000:=by simp at hl;omega
  have e1:(l++[x]).getLastD 0=x:=by simp
  cases hB:blankB x y with
  | true=>exact key (l++[x]++[32]++y::s2) (by rw [hx];unfold joinP;rw [e1];simp [hB]) (join_blank g go' b o n' c' n c l s2 x y w hs hs' h.1 h'.1 hlen hB)
  | false=>exact key (l++[x]++y::s2) (by rw [hx];unfold joinP;rw [e1];simp [hB]) (join_plain g go' b o n' c' n c l s2 x y w hs hs' h.1 h'.1 hlen hB)
def accJ (ss:List (List Int)):Nat->List Int
 | 0=>[]
 | i+1=>joinP (accJ ss i) (ss.getD i [])
theorem accJ_le (ss:List (List Int)) (i:Nat):∀ k,(accJ ss i).length<=(accJ ss (i+k)).length
 | 0=>Nat.le_refl _
 | k+1=>by
  have h:=accJ_le ss i k
  have e:accJ ss (i+(k+1))=joinP (accJ ss (i+k)) (ss.getD (i+k) []):=rfl
  have:=(joinP_len2 (accJ ss (i+k)) (ss.getD (i+k) [])).1
  rw [e]
  omega
def RowsQ (w:World) (A:Option Addr) (k:Nat) (ss:List (List Int)):Prop :=
 k=ss.length/\∀ i (h:i < ss.length),∃ b o A' n' c',A=some ⟨b,o,none⟩/\w.cell? ⟨b,o+i,none⟩=some (.slice A' n' c')/\RunQ (fun _=>True) w A' n' ss[i]
theorem all_any (q:Nat) (ss:List (List Int)) (A:Option Addr) (k cc:Nat) (w:World) (h:RowsQ w A k ss) (hk:k<=4194304) (hL:LoA w q) (hl:(accJ ss ss.length).length<=1099511627000) :
  Calls Tryz.prog 41 #[.slice A k cc,.pointer (some ⟨q,0,none⟩)] w fun e w'=>∃ B m c,e= .returned (.slice B m c)/\RunQ (fun b=>w.heap.size<=b) w' B m (accJ ss ss.length)/\Below w.heap.size w w':=by
 have HN:=Lib.hid h.1
 have HR:=Lib.hid h.2
 have HLO:=Lib.hid hL
 have HAT:Hid (∀ i,accJ ss (i+1)=joinP (accJ ss i) (ss.getD i [])):=fun i=>rfl
 have HLE:Hid (∀ i,i<=k->(accJ ss i).length<=1099511627000):=fun i hi=>by
  have h1:=accJ_le ss i (ss.length - i)
  rw [show i+(ss.length - i)=ss.length by have:=h.1;omega] at h1
  omega
 have HA0:Hid (accJ ss 0=[]):=rfl
 clear h hL hl
 go_enter Tryz.func41,Tryz.ntmps41
 go_wp2
 go_loopw [5,6] (fun ov iv wr=>∃ (i:Nat) (B:Option Addr) (m c:Nat),i<=k/\iv= .int .i64 (i:Int)/\ov= .slice B m c/\Hid (RunQ (fun b=>w.heap.size<=b) wr B m (accJ ss i))/\Hid (accJ ss i=[]->B=none/\c=0)/\Hid (Below w.heap.size w wr)) (fun _ iv _=>k - (intOf iv).toNat)
 case atStart=>exact ⟨0,none,0,0,Nat.zero_le _,rfl,rfl,runQ_nil _ _ _,fun _=>⟨rfl,rfl⟩,Below.refl _ _⟩
 case round =>
  obtain ⟨i,B,m,c,hi,rfl,rfl,HO,HE,HB⟩:=hrel
  by_cases him:i < k
  ·have hik:i < ss.length:=by have:=HN.out;omega
   obtain ⟨b,o,A',n',c',rfl,hc,hr⟩:=HR.out i hik
   have hgd:ss.getD i []=ss[i]:=by simp [List.getD,hik]
   have HJ1:Hid (accJ ss (i+1)=joinP (accJ ss i) ss[i]):=by unfold Hid;rw [HAT.out i,hgd]
   have hc2:wr.cell? ⟨b,o+i,none⟩=some (.slice A' n' c'):=by rw [HB.out.cell (cell_lt hc)];exact hc
   have HR2:=Lib.hid (hr.below HB.out)
   have HLO2:=Lib.hid (HLO.out.below HB.out)
   have HLL:Hid ((accJ ss i).length+ss[i].length<=1099511627000):=by
    have h1:=HLE.out (i+1) him
    rw [HJ1.out] at h1
    have:=(joinP_len2 (accJ ss i) ss[i]).1
    unfold Hid;omega
   clear hc hr hgd
   by_cases h0:ss[i]=[]
   ·have hn0:n'=0:=by have:=HR2.out.1;rw [h0] at this;simpa using this
    subst hn0
    have HJ2:Hid (accJ ss (i+1)=accJ ss i):=by unfold Hid;rw [HJ1.out,h0,joinP_nil2]
    clear h0 HLL
    go_wp2_with fail
    go_roundw
    case rel=>exact ⟨i+1,_,_,_,by omega,by go_num,rfl,by unfold Hid;rw [HJ2.out];exact HO.out,by unfold Hid;rw [HJ2.out];exact HE.out,HB.out⟩
    case measure=>simp [intOf];omega
   ·have hn0:0 < n':=by rw [HR2.out.1];exact List.length_pos_iff.2 h0
    have hn1:((n':Int)==0)=false:=by simp;omega
    have HNE:Hid (accJ ss (i+1)≠[]):=by
     unfold Hid;rw [HJ1.out];intro e
     have:=(joinP_len2 (accJ ss i) ss[i]).1
     rw [e] at this
     have h2:=List.length_pos_iff.2 h0
     rw [List.length_nil] at this;omega
    have HJN:=Lib.hid (rjoin_any B A' m c n' c' (accJ ss i) ss[i] wr HO.out HR2.out h0 HLL.out HE.out)
    rw [<- HJ1.out] at HJN
    clear h0 HLL HR2
    go_wp2_with fail
    (with_reducible refine HJN.out.mono ?_)
    rintro e w2 ⟨B2,m2,c2,rfl,hr2,hb2⟩
    have HO2:Hid (RunQ (fun b=>w.heap.size<=b) w2 B2 m2 (accJ ss (i+1))):=hr2.imp fun b h _=>by have:=HB.out.size;omega
    have HB2:=Lib.hid (HB.out.trans (hb2.mono HB.out.size))
    have HLO3:=Lib.hid (HLO2.out.below hb2)
    obtain ⟨av,y0,y1,y2,yf⟩:=HLO3.out.cells
    have HTK:=Lib.hid (fun x W=>take_same x W)
    clear hr2 hb2 HJN hc2 yf
    go_wp2_with fail
    go_quiet (first | (go_at_call 89;refine Calls.quiet_of_same (HTK.out _ _)))
    rename_i nq
    have HO3:=Lib.hid (HO2.out.below (Below.drewN2 (Below.refl _ w2) nq))
    have HB3:=Lib.hid (HB2.out.trans ((Below.drewN2 (Below.refl _ w2) nq).mono HB2.out.size))
    clear y0 y1 y2
    generalize w2.drewN nq=w3 at *
    go_wp2
    go_roundw
    case rel=>exact ⟨i+1,_,_,_,by omega,by go_num,rfl,HO3.out,fun e=>absurd e HNE.out,HB3.out⟩
    case measure=>simp [intOf];omega
  ·have hin:i=ss.length:=by have:=HN.out;omega
   have HF:Hid (RunQ (fun b=>w.heap.size<=b) wr B m (accJ ss ss.length)):=by unfold Hid;rw [<- hin];exact HO.out
   clear HO hin
   go_wp2
   go_ret
   exact ⟨_,_,_,rfl,HF.out,HB.out⟩
structure RSt (w0:World) (q b1:Nat) (vs:List Value) (wa W:World):Prop where
 bel:Below w0.heap.size w0 W
 lq:Lq q wa W
 lo:LoA W q
 ne:b1≠q
 lt:b1 < W.heap.size
 box:∀ i,W.cell? ⟨b1,i,none⟩=vs[i]?
theorem RSt.step {w0 wa W W':World}{q b1:Nat}{vs:List Value} (h:RSt w0 q b1 vs wa W) (hq:w0.heap.size<=q) (k:Lq q W W') (hl:LoA W' q):RSt w0 q b1 vs wa W' :=
 ⟨h.bel.trans (k.below h.bel.size hq),h.lq.trans k,hl,h.ne,by have:=h.lt;have:=k.size;omega,fun i=>by rw [World.cell?_of_block (w:=W) (k.block b1 h.lt h.ne)];exact h.box i⟩
theorem RSt.below {w0 wa W W':World}{q b1:Nat}{vs:List Value} (h:RSt w0 q b1 vs wa W) (hb:Below W.heap.size W W'):RSt w0 q b1 vs wa W' :=
 ⟨h.bel.trans (hb.mono h.bel.size),h.lq.trans (.of hb),h.lo.below hb,h.ne,by have:=h.lt;have:=hb.size;omega,fun i=>by rw [hb.cell (p:=⟨b1,i,none⟩) h.lt];exact h.box i⟩
theorem all_q {q:Nat}{ss:List (List Int)}{A:Option Addr}{k cc:Nat}{w:World} (h:RowsQ w A k ss) (hk:k<=4194304) (hL:LoA w q) (hl:(accJ ss ss.length).length<=1099511627000) :
  Calls Tryz.prog 41 #[.slice A k cc,.pointer (some ⟨q,0,none⟩)] w (RtQ q w (accJ ss ss.length)):=by
 refine (all_any q ss A k cc w h hk hL hl).mono ?_
 rintro e w' ⟨B,m,c,he,hr,hb⟩
 exact ⟨B,m,c,he,hr,.of hb,hL.below hb⟩
theorem RSt.start {w0 w:World}{q:Nat} (hb:Below w0.heap.size w0 w) (hL:LoA w q) (vs:List Value) (T:TypeId):RSt w0 q w.heap.size vs w (w.alloc (.cells vs.toArray T)):=by
 have hb1:=bel1 w (.cells vs.toArray T)
 exact ⟨hb.trans (hb1.mono hb.size),.of hb1,hL.below hb1,by have:=hL.lt;omega,by simp,fun i=>by rw [World.cell?_alloc_at _ _ _ _ rfl];simp⟩
theorem RSt.c6 {w0 wa W:World}{q b1:Nat}{v0 v1 v2 v3 v4 v5:Value} (h:RSt w0 q b1 [v0,v1,v2,v3,v4,v5] wa W):W.cell? ⟨b1,0,none⟩=some v0/\W.cell? ⟨b1,1,none⟩=some v1/\W.cell? ⟨b1,2,none⟩=some v2/\W.cell? ⟨b1,3,none⟩=some v3/\W.cell? ⟨b1,4,none⟩=some v4/\W.cell? ⟨b1,5,none⟩=some v5 :=
 ⟨h.box 0,h.box 1,h.box 2,h.box 3,h.box 4,h.box 5⟩
def TextP (f:FuncId) (w0:World) (q:Nat) (t:RTree) (s:List Int):Prop:=∀ v0 v1 v2 v3 v4 v5 W,RN w0 t [v0,v1,v2,v3,v4,v5]->Below w0.heap.size w0 W->LoA W q ->
 Calls Tryz.prog f #[.agg #[v0,v1,v2,v3,v4,v5],.pointer (some ⟨q,0,none⟩)] W (RtQ q W s)
theorem rows2 {F F':Nat->Prop}{W:World}{A A':Option Addr}{n n' c c':Nat}{s s':List Int} (h:RunQ F W A n s) (h':RunQ F' W A' n' s'):RowsQ (W.alloc (.cells #[.slice A n c,.slice A' n' c'] 27)) (some ⟨W.heap.size,0,none⟩) 2 [s,s']:=by
 have hb:=bel1 W (.cells #[.slice A n c,.slice A' n' c'] 27)
 refine ⟨rfl,fun i hi=>?_⟩
 have hi2:i=0\/i=1:=by simp at hi;omega
 rcases hi2 with rfl | rfl
 ·exact ⟨_,_,_,_,_,rfl,by rw [World.cell?_alloc_at _ _ _ _ rfl];rfl,(h.imp fun _ _ _=>trivial).below hb⟩
 ·exact ⟨_,_,_,_,_,rfl,by rw [World.cell?_alloc_at _ _ _ _ rfl];rfl,(h'.imp fun _ _ _=>trivial).below hb⟩
theorem rows3 {F F' F2:Nat->Prop}{W:World}{A A' A2:Option Addr}{n n' n2 c c' c2:Nat}{s s' s2:List Int} (h:RunQ F W A n s) (h':RunQ F' W A' n' s') (h2:RunQ F2 W A2 n2 s2):RowsQ (W.alloc (.cells #[.slice A n c,.slice A' n' c',.slice A2 n2 c2] 27)) (some ⟨W.heap.size,0,none⟩) 3 [s,s',s2]:=by
 have hb:=bel1 W (.cells #[.slice A n c,.slice A' n' c',.slice A2 n2 c2] 27)
 refine ⟨rfl,fun i hi=>?_⟩
 have hi2:i=0\/i=1\/i=2:=by simp at hi;omega
 rcases hi2 with rfl | rfl | rfl
 ·exact ⟨_,_,_,_,_,rfl,by rw [World.cell?_alloc_at _ _ _ _ rfl];rfl,(h.imp fun _ _ _=>trivial).below hb⟩
 ·exact ⟨_,_,_,_,_,rfl,by rw [World.cell?_alloc_at _ _ _ _ rfl];rfl,(h'.imp fun _ _ _=>trivial).below hb⟩
 ·exact ⟨_,_,_,_,_,rfl,by rw [World.cell?_alloc_at _ _ _ _ rfl];rfl,(h2.imp fun _ _ _=>trivial).below hb⟩
theorem rows4 {F F' F2 F3:Nat->Prop}{W:World}{A A' A2 A3:Option Addr}{n n' n2 n3 c c' c2 c3:Nat}{s s' s2 s3:List Int} (h:RunQ F W A n s) (h':RunQ F' W A' n' s') (h2:RunQ F2 W A2 n2 s2) (h3:RunQ F3 W A3 n3 s3):RowsQ (W.alloc (.cells #[.slice A n c,.slice A' n' c',.slice A2 n2 c2,.slice A3 n3 c3] 27)) (some ⟨W.heap.size,0,none⟩) 4 [s,s',s2,s3]:=by
 have hb:=bel1 W (.cells #[.slice A n c,.slice A' n' c',.slice A2 n2 c2,.slice A3 n3 c3] 27)
 refine ⟨rfl,fun i hi=>?_⟩
 have hi2:i=0\/i=1\/i=2\/i=3:=by simp at hi;omega
 rcases hi2 with rfl | rfl | rfl | rfl
 ·exact ⟨_,_,_,_,_,rfl,by rw [World.cell?_alloc_at _ _ _ _ rfl];rfl,(h.imp fun _ _ _=>trivial).below hb⟩
 ·exact ⟨_,_,_,_,_,rfl,by rw [World.cell?_alloc_at _ _ _ _ rfl];rfl,(h'.imp fun _ _ _=>trivial).below hb⟩
 ·exact ⟨_,_,_,_,_,rfl,by rw [World.cell?_alloc_at _ _ _ _ rfl];rfl,(h2.imp fun _ _ _=>trivial).below hb⟩
 ·exact ⟨_,_,_,_,_,rfl,by rw [World.cell?_alloc_at _ _ _ _ rfl];rfl,(h3.imp fun _ _ _=>trivial).below hb⟩
end Go.Proofs.YtbakjaliponbbaaGreatDoor
