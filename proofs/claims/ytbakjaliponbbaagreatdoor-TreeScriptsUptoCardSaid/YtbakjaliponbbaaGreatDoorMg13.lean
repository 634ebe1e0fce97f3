/- The walks of idiom.prim, folded, same, told, and of idiom.one, two, Match over trees. Printed by gen_trmb.py. The writer's list and bracket; node at braces. .. Conditions: as each theorem says. -/
import Derived.Test.YtbakjaliponbbaaGreatDoorMg01
import Derived.Deep.DeepCutAuto
import Derived.Test.YtbakjaliponbbaaGreatDoorMg04
import Derived.Test.YtbakjaliponbbaaGreatDoorMg10
import Derived.Test.YtbakjaliponbbaaGreatDoorMg12
import Derived.Deep.CutBlock
set_option maxRecDepth 100000
set_option maxHeartbeats 1600000
namespace Go.Proofs.YtbakjaliponbbaaGreatDoor
open Go Go.RowKit Go.Proofs Fl
instance:Inhabited RTree:=⟨.mk 0 [] [] ⟨#[]⟩ 0 []⟩
def nameR:RTree->ByteArray
 | .mk _ _ _ n _ _=>n
def charR:RTree->Int
 | .mk _ _ _ _ c _=>c
def kidsR:RTree->List RTree
 | .mk _ _ _ _ _ l=>l
def kidR (t:RTree) (i:Nat):RTree:=(kidsR t).getD i default
theorem kidR_at {k:Int}{nums:List Nat}{text:List Int}{name:ByteArray}{c:Int}{kids:List RTree}{i:Nat} (hi:i < kids.length):kidR (.mk k nums text name c kids) i=kids[i]:=by
 unfold kidR
 show kids.getD i default=_
 simp [List.getD,hi]
theorem TN.form2 {w:World}{k:Int}{nums:List Nat}{text:List Int}{name:ByteArray}{c:Int}{kids:List RTree}{v0 v1 v2 v3 v4 v5 v6:Value} (h:TN w (.mk k nums text name c kids) [v0,v1,v2,v3,v4,v5,v6]) :
  ∃ at1 A1 n1 c1 A2 n2 c2 A m cc,v0= .int .i64 k/\v1= .int .i64 at1/\v2= .slice A1 n1 c1/\v3= .slice A2 n2 c2/\v4= .string name/\v5= .int .i32 c/\v6= .slice A m cc/\m=kids.length/\KidsAt w A kids:=by
 obtain ⟨at1,nv,tv,A,cc,m,hvs,hrn,hrt,hm,hkid⟩:=h.open_
 simp only [List.cons.injEq,and_true] at hvs
 obtain ⟨rfl,rfl,rfl,rfl,rfl,rfl,rfl⟩:=hvs
 obtain ⟨A1,c1,n1,rfl,_,_⟩:=hrn.opn
 obtain ⟨A2,c2,n2,rfl,_,_⟩:=hrt.opn
 exact ⟨at1,A1,n1,c1,A2,n2,c2,A,m,cc,rfl,rfl,rfl,rfl,rfl,rfl,rfl,hm,hkid⟩
theorem TN.vals {w:World}{t:RTree}{v0 v1 v2 v3 v4 v5 v6:Value} (h:TN w t [v0,v1,v2,v3,v4,v5,v6]) :
  ∃ (a:Int) (A1:Option Addr) (n1 c1:Nat) (A2:Option Addr) (n2 c2:Nat) (A:Option Addr) (m cc:Nat),v0= .int .i64 (kindR t)/\v1= .int .i64 a/\v2= .slice A1 n1 c1/\v3= .slice A2 n2 c2/\v4= .string (nameR t)/\v5= .int .i32 (charR t)/\v6= .slice A m cc/\m=(kidsR t).length /\
   ∀ i,i < (kidsR t).length->∃ b o u0 u1 u2 u3 u4 u5 u6,A=some ⟨b,o,none⟩/\TN w (kidR t i) [u0,u1,u2,u3,u4,u5,u6]/\KidC w b (o+i*7) u0 u1 u2 u3 u4 u5 u6:=by
 cases t with
 | mk k nums text name c kids =>
  obtain ⟨a,A1,n1,c1,A2,n2,c2,A,m,cc,h0,h1,h2,h3,h4,h5,h6,hm,hk⟩:=h.form2
  refine ⟨a,A1,n1,c1,A2,n2,c2,A,m,cc,h0,h1,h2,h3,h4,h5,h6,hm,fun i hi=>?_⟩
  obtain ⟨b,o,u0,u1,u2,u3,u4,u5,u6,e,ht,hc⟩:=hk.kid i hi
  exact ⟨b,o,u0,u1,u2,u3,u4,u5,u6,e,by rw [kidR_at (show i < kids.length from hi)];exact ht,hc⟩
def accT (tx:RTree->List Int) (bt:Int) (ts:List RTree):Nat->List Int
 | 0=>[]
 | i+1=>joinP (accT tx bt ts i) (joinP (if i=0 then [] else [bt]) (tx (ts.getD i default)))
theorem accT_le (tx:RTree->List Int) (bt:Int) (ts:List RTree) (i:Nat):∀ k,(accT tx bt ts i).length<=(accT tx bt ts (i+k)).length
 | 0=>Nat.le_refl _
 | k+1=>by
  have h:=accT_le tx bt ts i k
  have e:accT tx bt ts (i+(k+1))=joinP (accT tx bt ts (i+k)) (joinP (if i+k=0 then [] else [bt]) (tx (ts.getD (i+k) default))):=rfl
  have:=(joinP_len2 (accT tx bt ts (i+k)) (joinP (if i+k=0 then [] else [bt]) (tx (ts.getD (i+k) default)))).1
  rw [e]
  omega
theorem joinP_nil2 (l:List Int):joinP l []=l:=by unfold joinP;simp
theorem Stepped.d9 {w0 wa W:World}{g:Nat}{v:Value}{l:List Int} (h:Stepped w0 wa g v l W) (vs:List Value) (T:TypeId):D9 w0 g v l wa W.heap.size vs (W.alloc (.cells vs.toArray T)):=by
 obtain ⟨v1,h1,h2,h3⟩:=h
 have hb1:=bel1 W (.cells vs.toArray T)
 obtain ⟨ha,hg⟩:=h1.below hb1
 exact ⟨v1,h3.trans (hb1.mono h3.size),ha,h2.trans hg,nodeAt_new h1 vs T⟩
theorem Stepped.start {w0 w:World}{g:Nat}{v:Value}{l:List Int} (hb:Below w0.heap.size w0 w) (hw:WSt w w0.heap.size g v l):Stepped w0 w g v l w:=⟨v,hw,(hw.below (Below.refl _ w)).2,hb⟩
theorem Stepped.trans {w0 wa W W':World}{g:Nat}{v:Value}{l l':List Int} (h:Stepped w0 wa g v l W) (k:∀ v1,WSt W w0.heap.size g v1 l->Stepped w0 W g v1 l' W'):Stepped w0 wa g v l' W':=by
 obtain ⟨v1,h1,h2,h3⟩:=h
 obtain ⟨v2,k1,k2,k3⟩:=k v1 h1
 exact ⟨v2,k1,h2.trans k2,k3⟩
theorem st_call {w0 wa W:World}{g:Nat}{v:Value}{l l':List Int}{f:FuncId}{args:Array Value}{W1:World} (h:Stepped w0 wa g v l W)
  (k:∀ v1,Below w0.heap.size w0 W->WSt W w0.heap.size g v1 l->Calls Tryz.prog f args W1 fun e w'=>e= .returned (.tuple #[])/\Stepped w0 W g v1 l' w') :
  Calls Tryz.prog f args W1 fun e w'=>e= .returned (.tuple #[])/\Stepped w0 wa g v l' w':=by
 obtain ⟨v1,h1,h2,h3⟩:=h
 refine (k v1 h3 h1).mono ?_
 rintro e w' ⟨he,v2,k1,k2,k3⟩
 exact ⟨he,v2,k1,h2.trans k2,k3⟩
theorem st_put {w0 wa W:World}{g:Nat}{v:Value}{l:List Int} (c:Int) (h:Stepped w0 wa g v l W) (hl:l.length+1<=1099511627000) :
  Calls Tryz.prog 37 #[.pointer (some ⟨g,0,none⟩),.slice (some ⟨W.heap.size,0,none⟩) 1 1] (W.alloc (.cells #[.int .i32 c] 21)) fun e w'=>e= .returned (.tuple #[])/\Stepped w0 wa g v (joinP l [c]) w' :=
 st_call h fun _ hb hw=>put_new1 c W.heap.size rfl hb hw hl
theorem list_any (w0:World) (tx:RTree->List Int) (bt:Int) (ts:List RTree) (A:Option Addr) (n cc:Nat) (hn:n=ts.length) (hn2:n<=1048576) (hk:KidsAt w0 A ts) (H:∀ i (hi:i < ts.length),NodeP 38 w0 ts[i] (tx ts[i])) :
  ∀ w g v l,Below w0.heap.size w0 w->WSt w w0.heap.size g v l->l.length+2*(accT tx bt ts ts.length).length<=1099511627000 ->
   Calls Tryz.prog 79 #[.pointer (some ⟨g,0,none⟩),.slice A n cc,.int .i32 bt] w fun e w'=>e= .returned (.tuple #[])/\Stepped w0 w g v (joinP l (accT tx bt ts ts.length)) w':=by
 intro w g v l hb hw hl
 have HK:=Lib.hid hk
 have HN:=Lib.hid hn
 have HH:=Lib.hid H
 have HS:=Lib.hid (Stepped.start hb hw)
 have HLN:=Lib.hid hl
 have HAT:Hid (∀ i,accT tx bt ts (i+1)=joinP (accT tx bt ts i) (joinP (if i=0 then [] else [bt]) (tx (ts.getD i default)))):=fun i=>rfl
 have HLE:Hid (∀ i,i<=n->(accT tx bt ts i).length<=(accT tx bt ts ts.length).length):=fun i hi=>by
  have h:=accT_le tx bt ts i (ts.length - i)
  rwa [show i+(ts.length - i)=ts.length by omega] at h
 have HA0:Hid (accT tx bt ts 0=[]):=rfl
 clear hk hn H hb hw hl
 go_enter Tryz.func79,Tryz.ntmps79
 go_wp2
 go_loopw [10] (fun iv wr=>∃ (i:Nat),i<=n/\iv= .int .i64 (i:Int)/\Hid (Stepped w0 w g v (joinP l (accT tx bt ts i)) wr)) (fun iv _=>n - (intOf iv).toNat)
 case atStart=>exact ⟨0,Nat.zero_le _,rfl,by unfold Hid;rw [HA0.out,joinP_nil2];exact HS.out⟩
 case round =>
  obtain ⟨i,hi,rfl,hst⟩:=hrel
  by_cases him:i < n
  ·have hik:i < ts.length:=by have:=HN.out;omega
   obtain ⟨b,o,u0,u1,u2,u3,u4,u5,u6,rfl,hr,hce⟩:=HK.out.kid i hik
   obtain ⟨ua,B1,m1,d1,B2,m2,d2,B3,m3,d3,rfl,rfl,rfl,rfl,rfl,rfl,rfl,-,-⟩:=hr.vals
   generalize kindR ts[i]=uk at *
   generalize nameR ts[i]=un at *
   generalize charR ts[i]=uc at *
   have hgd:ts.getD i default=ts[i]:=by simp [List.getD,hik]
   have HE:Hid (accT tx bt ts (i+1)=joinP (accT tx bt ts i) (joinP (if i=0 then [] else [bt]) (tx ts[i]))):=by unfold Hid;rw [HAT.out i,hgd]
   have j0:=joinP_len2 l (accT tx bt ts i)
   have j1:=joinP_len2 (joinP l (accT tx bt ts i)) [bt]
   have e1:=(joinP_len2 (accT tx bt ts i) (joinP (if i=0 then [] else [bt]) (tx ts[i]))).1
   have e2:=(joinP_len2 (if i=0 then [] else [bt]) (tx ts[i])).1
   have e3:=HLE.out (i+1) him
   have e4:=HLN.out
   rw [HE.out] at e3
   simp only [List.length_singleton] at j1
   have HBL:Hid (Below w0.heap.size w0 wr):=by obtain ⟨_,_,_,h⟩:=hst.out;exact h
   have hd0:=hst.out.d9 [.int .i64 uk,.int .i64 ua,.slice B1 m1 d1,.slice B2 m2 d2,.string un,.int .i32 uc,.slice B3 m3 d3] 31
   obtain ⟨W1,hW1⟩:∃ W1,W1=wr.alloc (.cells #[.int .i64 uk,.int .i64 ua,.slice B1 m1 d1,.slice B2 m2 d2,.string un,.int .i32 uc,.slice B3 m3 d3] 31):=⟨_,rfl⟩
   have HW1:=Lib.hid hW1
   have HD0:Hid (D9 w0 g v (joinP l (accT tx bt ts i)) w wr.heap.size [.int .i64 uk,.int .i64 ua,.slice B1 m1 d1,.slice B2 m2 d2,.string un,.int .i32 uc,.slice B3 m3 d3] W1):=by unfold Hid;rw [hW1];exact hd0
   have HZ1:Hid (W1.heap.size=wr.heap.size+1):=by unfold Hid;rw [hW1];simp
   clear hW1 hd0
   have HR:=Lib.hid hr
   have HND:=Lib.hid (HH.out i hik)
   have HCE:=Lib.hid hce
   clear hr hce hgd
   by_cases h0:i=0
   ·rw [if_pos h0,joinP_nil] at HE e1
    have HL0:Hid ((joinP l (accT tx bt ts i)).length+2*(tx ts[i]).length<=1099511627000):=by unfold Hid;rw [if_pos h0,joinP_nil] at e3;omega
    have hce0:KidC w0 b o (.int .i64 uk) (.int .i64 ua) (.slice B1 m1 d1) (.slice B2 m2 d2) (.string un) (.int .i32 uc) (.slice B3 m3 d3):=by have h:=HCE.out;rw [h0] at h;simpa using h
    obtain ⟨y0,y1,y2,y3,y4,y5,y6⟩:=kidC_of hce0 HBL.out
    clear j0 j1 e1 e2 e3 e4 hce0
    go_upto_region 3 with fail
    rw [<- HW1.out]
    clear HW1 y0 y1 y2 y3 y4 y5 y6
    obtain ⟨x0,x1,x2,x3,x4,x5,x6⟩:=HD0.out.c7
    go_wp2_with fail
    (with_reducible refine (d9_node HND.out HR.out HD0.out HL0.out).mono ?_)
    rintro e w1 ⟨rfl,hd⟩
    have HF:Hid (Stepped w0 w g v (joinP l (accT tx bt ts (i+1))) w1):=by
     have h:=hd.stepped
     rw [joinP_assoc] at h
     unfold Hid;rw [HE.out];exact h
    clear hd x0 x1 x2 x3 x4 x5 x6
    go_wp2
    go_roundw
    case rel=>exact ⟨i+1,by omega,by go_num,HF.out⟩
    case measure=>simp [intOf];omega
   ·rw [if_neg h0] at HE e1 e2 e3
    have hi0:0 < i:=by omega
    simp only [List.length_singleton] at e2
    have HL0:Hid ((joinP l (accT tx bt ts i)).length+1<=1099511627000):=by unfold Hid;omega
    have HL1:Hid ((joinP (joinP l (accT tx bt ts i)) [bt]).length+2*(tx ts[i]).length<=1099511627000):=by unfold Hid;omega
    obtain ⟨y0,y1,y2,y3,y4,y5,y6⟩:=kidC_of HCE.out HBL.out
    clear j0 j1 e1 e2 e3 e4
    go_upto_region 3 with fail
    rw [<- HW1.out]
    clear HW1 y0 y1 y2 y3 y4 y5 y6
    go_wp2_with fail
    (with_reducible refine (d9_put bt W1.heap.size rfl HD0.out HL0.out).mono ?_)
    rintro e w1 ⟨rfl,hd⟩
    have HD1:=Lib.hid hd
    clear hd
    obtain ⟨x0,x1,x2,x3,x4,x5,x6⟩:=HD1.out.c7
    go_wp2_with fail
    (with_reducible refine (d9_node HND.out HR.out HD1.out HL1.out).mono ?_)
    rintro e w2 ⟨rfl,hd⟩
    have HF:Hid (Stepped w0 w g v (joinP l (accT tx bt ts (i+1))) w2):=by
     have h:=hd.stepped
     rw [joinP_assoc,joinP_assoc] at h
     unfold Hid;rw [HE.out];exact h
    clear hd x0 x1 x2 x3 x4 x5 x6
    go_wp2
    go_roundw
    case rel=>exact ⟨i+1,by omega,by go_num,HF.out⟩
    case measure=>simp [intOf];omega
  ·have hin:i=ts.length:=by have:=HN.out;omega
   have HF:Hid (Stepped w0 w g v (joinP l (accT tx bt ts ts.length)) wr):=by unfold Hid;rw [<- hin];exact hst.out
   clear hst hin
   go_wp2
   go_end0
   exact ⟨rfl,HF.out⟩
def brkT (tx:RTree->List Int) (ts:List RTree):List Int:=joinP [91] (joinP (accT tx 59 ts ts.length) [93])
theorem d9_list {w0 wa W:World}{g:Nat}{v:Value}{l:List Int}{b1:Nat}{vs:List Value}{tx:RTree->List Int}{bt:Int}{ts:List RTree}{A:Option Addr}{n cc:Nat} (hn:n=ts.length) (hn2:n<=1048576) (hk:KidsAt w0 A ts) (H:∀ i (hi:i < ts.length),NodeP 38 w0 ts[i] (tx ts[i])) (h:D9 w0 g v l wa b1 vs W) (hl:l.length+2*(accT tx bt ts ts.length).length<=1099511627000) :
  Calls Tryz.prog 79 #[.pointer (some ⟨g,0,none⟩),.slice A n cc,.int .i32 bt] W fun e w'=>e= .returned (.tuple #[])/\D9 w0 g v (joinP l (accT tx bt ts ts.length)) wa b1 vs w':=by
 obtain ⟨v1,h1,h2,h3,h4⟩:=h
 exact (list_any w0 tx bt ts A n cc hn hn2 hk H W g v1 l h1 h2 hl).mono fun e w' ⟨he,hk⟩=>⟨he,D9.add h3 h4 hk⟩
theorem bracket_any (w0:World) (tx:RTree->List Int){ts:List RTree}{A:Option Addr}{n cc:Nat} (hn:n=ts.length) (hn2:n<=1048576) (hk:KidsAt w0 A ts) (H:∀ i (hi:i < ts.length),NodeP 38 w0 ts[i] (tx ts[i])) :
  ∀ w g v l,Below w0.heap.size w0 w->WSt w w0.heap.size g v l->l.length+2*(brkT tx ts).length<=1099511627000 ->
   Calls Tryz.prog 78 #[.pointer (some ⟨g,0,none⟩),.slice A n cc] w fun e w'=>e= .returned (.tuple #[])/\Stepped w0 w g v (joinP l (brkT tx ts)) w':=by
 intro w g v l hb hw hl
 have HS0:=Lib.hid (Stepped.start hb hw)
 have HLI:Hid (∀ W l' v1,Below w0.heap.size w0 W->WSt W w0.heap.size g v1 l'->l'.length+2*(accT tx 59 ts ts.length).length<=1099511627000->Calls Tryz.prog 79 #[.pointer (some ⟨g,0,none⟩),.slice A n cc,.int .i32 59] W fun e w'=>e= .returned (.tuple #[])/\Stepped w0 W g v1 (joinP l' (accT tx 59 ts ts.length)) w'):=fun W l' v1 h1 h2 h3=>list_any w0 tx 59 ts A n cc hn hn2 hk H W g v1 l' h1 h2 h3
 obtain ⟨T,hT⟩:∃ T,T=brkT tx ts:=⟨_,rfl⟩
 have HT:Hid (T=joinP [91] (joinP (accT tx 59 ts ts.length) [93])):=hT
 rw [<- hT] at hl ⊢
 generalize accT tx 59 ts ts.length=s at *
 have j0:=joinP_len2 l [91]
 have j1:=joinP_len2 (joinP l [91]) s
 have e0:=(joinP_len2 s [93]).1
 have e1:=(joinP_len2 [91] (joinP s [93])).1
 rw [HT.out] at hl
 simp only [List.length_singleton] at j0 e0 e1
 have HL0:Hid (l.length+1<=1099511627000):=by unfold Hid;omega
 have HL1:Hid ((joinP l [91]).length+2*s.length<=1099511627000):=by unfold Hid;omega
 have HL2:Hid ((joinP (joinP l [91]) s).length+1<=1099511627000):=by unfold Hid;omega
 clear hb hw hl hn hn2 hk H hT j0 j1 e0 e1
 go_enter Tryz.func78,Tryz.ntmps78
 go_wp2_with fail
 (with_reducible refine (st_put 91 HS0.out HL0.out).mono ?_)
 rintro e w1 ⟨rfl,hd⟩
 have HS1:=Lib.hid hd
 clear hd
 go_wp2_with fail
 (with_reducible refine (st_call HS1.out fun v1 h1 h2=>HLI.out _ _ v1 h1 h2 HL1.out).mono ?_)
 rintro e w2 ⟨rfl,hd⟩
 have HS2:=Lib.hid hd
 clear hd
 go_wp2_with fail
 (with_reducible refine (st_put 93 HS2.out HL2.out).mono ?_)
 rintro e w3 ⟨rfl,hd⟩
 have HF:Hid (Stepped w0 w g v (joinP l T) w3):=by
  rw [HT.out]
  rw [joinP_assoc,joinP_assoc] at hd
  exact hd
 clear hd
 go_wp2
 go_end0
 exact ⟨rfl,HF.out⟩
theorem d9_bracket {w0 wa W:World}{g:Nat}{v:Value}{l:List Int}{b1:Nat}{vs:List Value}{tx:RTree->List Int}{ts:List RTree}{A:Option Addr}{n cc:Nat} (hn:n=ts.length) (hn2:n<=1048576) (hk:KidsAt w0 A ts) (H:∀ i (hi:i < ts.length),NodeP 38 w0 ts[i] (tx ts[i])) (h:D9 w0 g v l wa b1 vs W) (hl:l.length+2*(brkT tx ts).length<=1099511627000) :
  Calls Tryz.prog 78 #[.pointer (some ⟨g,0,none⟩),.slice A n cc] W fun e w'=>e= .returned (.tuple #[])/\D9 w0 g v (joinP l (brkT tx ts)) wa b1 vs w':=by
 obtain ⟨v1,h1,h2,h3,h4⟩:=h
 exact (bracket_any w0 tx hn hn2 hk H W g v1 l h1 h2 hl).mono fun e w' ⟨he,hk⟩=>⟨he,D9.add h3 h4 hk⟩
theorem node_15 (w0:World) (nums:List Nat) (text:List Int) (name:ByteArray) (c:Int) (kids:List RTree) (tx:RTree->List Int) (hm2:kids.length<=1048576) (H:∀ i (hi:i < kids.length),NodeP 38 w0 kids[i] (tx kids[i])) :
  NodeP 38 w0 (.mk 15 nums text name c kids) (joinP [123] (joinP (accT tx 8900 kids kids.length) [125])):=by
 intro v0 v1 v2 v3 v4 v5 v6 w g v l ht hb hw hl
 obtain ⟨at1,A1,n1,c1,A2,n2,c2,A,m,cc,rfl,rfl,rfl,rfl,rfl,rfl,rfl,hm,-,hk⟩:=ht.form
 have HD0:=Lib.hid (d9_start hb hw [.int .i64 15,.int .i64 at1,.slice A1 n1 c1,.slice A2 n2 c2,.string name,.int .i32 c,.slice A m cc] 31)
 have HLI:Hid (∀ W l',D9 w0 g v l' w w.heap.size [.int .i64 15,.int .i64 at1,.slice A1 n1 c1,.slice A2 n2 c2,.string name,.int .i32 c,.slice A m cc] W->l'.length+2*(accT tx 8900 kids kids.length).length<=1099511627000->Calls Tryz.prog 79 #[.pointer (some ⟨g,0,none⟩),.slice A m cc,.int .i32 8900] W fun e w'=>e= .returned (.tuple #[])/\D9 w0 g v (joinP l' (accT tx 8900 kids kids.length)) w w.heap.size [.int .i64 15,.int .i64 at1,.slice A1 n1 c1,.slice A2 n2 c2,.string name,.int .i32 c,.slice A m cc] w'):=fun W l' h1 h2=>d9_list hm (by omega) hk H h1 h2
 generalize accT tx 8900 kids kids.length=s at *
 have j0:=joinP_len2 l [123]
 have j1:=joinP_len2 (joinP l [123]) s
 have e0:=(joinP_len2 s [125]).1
 have e1:=(joinP_len2 [123] (joinP s [125])).1
 simp only [List.length_singleton] at j0 e0 e1
 have HL0:Hid (l.length+1<=1099511627000):=by unfold Hid;omega
 have HL1:Hid ((joinP l [123]).length+2*s.length<=1099511627000):=by unfold Hid;omega
 have HL2:Hid ((joinP (joinP l [123]) s).length+1<=1099511627000):=by unfold Hid;omega
 clear ht hb hw hl hk hm hm2 H j0 j1 e0 e1
 go_enter Tryz.func38,Tryz.ntmps38
 go_wp2_with fail
 (with_reducible refine (d9_put 123 (w.heap.size+1) (by simp) HD0.out HL0.out).mono ?_)
 rintro e w1 ⟨rfl,hd⟩
 have HD1:=Lib.hid hd
 clear hd
 obtain ⟨x0,x1,x2,x3,x4,x5,x6⟩:=HD1.out.c7
 go_wp2_with fail
 (with_reducible refine (HLI.out _ _ HD1.out HL1.out).mono ?_)
 rintro e w2 ⟨rfl,hd⟩
 have HD2:=Lib.hid hd
 clear hd x0 x1 x2 x3 x4 x5 x6
 go_wp2_with fail
 (with_reducible refine (d9_put 125 w2.heap.size rfl HD2.out HL2.out).mono ?_)
 rintro e w3 ⟨rfl,hd⟩
 have HF:Hid (Stepped w0 w g v (joinP l (joinP [123] (joinP s [125]))) w3):=by
  have h:=hd.stepped
  simp only [joinP_assoc] at h
  exact h
 clear hd
 go_wp2
 go_end0
 exact ⟨rfl,HF.out⟩
def accW (tx:RTree->List Int) (ts:List RTree):Nat->List Int
 | 0=>[]
 | i+1=>joinP (accW tx ts i) (wrapT (bareB (kindR (ts.getD i default))) (tx (ts.getD i default)))
theorem accW_le (tx:RTree->List Int) (ts:List RTree) (i:Nat):∀ k,(accW tx ts i).length<=(accW tx ts (i+k)).length
 | 0=>Nat.le_refl _
 | k+1=>by
  have h:=accW_le tx ts i k
  have e:accW tx ts (i+(k+1))=joinP (accW tx ts (i+k)) (wrapT (bareB (kindR (ts.getD (i+k) default))) (tx (ts.getD (i+k) default))):=rfl
  have:=(joinP_len2 (accW tx ts (i+k)) (wrapT (bareB (kindR (ts.getD (i+k) default))) (tx (ts.getD (i+k) default)))).1
  rw [e]
  omega
theorem node_7 (w0:World) (nums:List Nat) (text:List Int) (name:ByteArray) (c:Int) (kids:List RTree) (tx:RTree->List Int) (hm2:kids.length<=1048576) (H:∀ i (hi:i < kids.length),NodeP 38 w0 kids[i] (tx kids[i])) :
  NodeP 38 w0 (.mk 7 nums text name c kids) (accW tx kids kids.length):=by
 intro v0 v1 v2 v3 v4 v5 v6 w g v l ht hb hw hl
 obtain ⟨at1,A1,n1,c1,A2,n2,c2,A,m,cc,rfl,rfl,rfl,rfl,rfl,rfl,rfl,hm,-,hk⟩:=ht.form
 have hm3:m<=1048576:=by omega
 have HD0:=Lib.hid (d9_start hb hw [.int .i64 7,.int .i64 at1,.slice A1 n1 c1,.slice A2 n2 c2,.string name,.int .i32 c,.slice A m cc] 31)
 have HK:=Lib.hid hk
 have HN:=Lib.hid hm
 have HH:=Lib.hid H
 have HLN:=Lib.hid hl
 have HAT:Hid (∀ i,accW tx kids (i+1)=joinP (accW tx kids i) (wrapT (bareB (kindR (kids.getD i default))) (tx (kids.getD i default)))):=fun i=>rfl
 have HLE:Hid (∀ i,i<=m->(accW tx kids i).length<=(accW tx kids kids.length).length):=fun i hi=>by
  have h:=accW_le tx kids i (kids.length - i)
  rwa [show i+(kids.length - i)=kids.length by omega] at h
 have HA0:Hid (accW tx kids 0=[]):=rfl
 clear ht hb hw hl hk hm hm2 H
 go_enter Tryz.func38,Tryz.ntmps38
 obtain ⟨x0,x1,x2,x3,x4,x5,x6⟩:=HD0.out.c7
 go_wp2
 have HS0:Hid (Stepped w0 w g v l (w.alloc (.cells #[.int .i64 7,.int .i64 at1,.slice A1 n1 c1,.slice A2 n2 c2,.string name,.int .i32 c,.slice A m cc] 31))):=HD0.out.stepped
 clear x0 x1 x2 x3 x4 x5 x6 HD0
 generalize w.alloc (.cells #[.int .i64 7,.int .i64 at1,.slice A1 n1 c1,.slice A2 n2 c2,.string name,.int .i32 c,.slice A m cc] 31)=w00 at *
 go_loopw [59] (fun iv wr=>∃ (i:Nat),i<=m/\iv= .int .i64 (i:Int)/\Hid (Stepped w0 w g v (joinP l (accW tx kids i)) wr)) (fun iv _=>m - (intOf iv).toNat)
 case atStart=>exact ⟨0,Nat.zero_le _,rfl,by unfold Hid;rw [HA0.out,joinP_nil2];exact HS0.out⟩
 case round =>
  obtain ⟨i,hi,rfl,hst⟩:=hrel
  by_cases him:i < m
  ·have hik:i < kids.length:=by have:=HN.out;omega
   obtain ⟨b,o,u0,u1,u2,u3,u4,u5,u6,rfl,hr,hce⟩:=HK.out.kid i hik
   obtain ⟨ua,B1,m1,d1,B2,m2,d2,B3,m3,d3,rfl,rfl,rfl,rfl,rfl,rfl,rfl,-,-⟩:=hr.vals
   have hgd:kids.getD i default=kids[i]:=by simp [List.getD,hik]
   have HE:Hid (accW tx kids (i+1)=joinP (accW tx kids i) (wrapT (bareB (kindR kids[i])) (tx kids[i]))):=by unfold Hid;rw [HAT.out i,hgd]
   have HR:=Lib.hid hr
   have HBA:=Lib.hid (fun W (h:Below w0.heap.size w0 W)=>bare_any w0 kids[i] _ _ _ _ _ _ _ W hr h)
   have j0:=joinP_len2 l (accW tx kids i)
   have e1:=(joinP_len2 (accW tx kids i) (wrapT (bareB (kindR kids[i])) (tx kids[i]))).1
   have e3:=HLE.out (i+1) him
   have e4:=HLN.out
   rw [HE.out] at e3
   have HL0:Hid ((joinP l (accW tx kids i)).length+2*(wrapT (bareB (kindR kids[i])) (tx kids[i])).length<=1099511627000):=by unfold Hid;omega
   have HND:=Lib.hid (HH.out i hik)
   have HBL:Hid (Below w0.heap.size w0 wr):=by obtain ⟨_,_,_,h⟩:=hst.out;exact h
   obtain ⟨pb,hpb⟩:∃ pb,pb=bareB (kindR kids[i]):=⟨_,rfl⟩
   rw [<- hpb] at HE HBA HL0
   clear hpb
   generalize kindR kids[i]=uk at *
   generalize nameR kids[i]=un at *
   generalize charR kids[i]=uc at *
   have hd0:=hst.out.d9 [.int .i64 uk,.int .i64 ua,.slice B1 m1 d1,.slice B2 m2 d2,.string un,.int .i32 uc,.slice B3 m3 d3] 31
   obtain ⟨W1,hW1⟩:∃ W1,W1=wr.alloc (.cells #[.int .i64 uk,.int .i64 ua,.slice B1 m1 d1,.slice B2 m2 d2,.string un,.int .i32 uc,.slice B3 m3 d3] 31):=⟨_,rfl⟩
   have HW1:=Lib.hid hW1
   have HD0:Hid (D9 w0 g v (joinP l (accW tx kids i)) w wr.heap.size [.int .i64 uk,.int .i64 ua,.slice B1 m1 d1,.slice B2 m2 d2,.string un,.int .i32 uc,.slice B3 m3 d3] W1):=by unfold Hid;rw [hW1];exact hd0
   have HPD:Hid (∀ W,D9 w0 g v (joinP l (accW tx kids i)) w wr.heap.size [.int .i64 uk,.int .i64 ua,.slice B1 m1 d1,.slice B2 m2 d2,.string un,.int .i32 uc,.slice B3 m3 d3] W->Calls Tryz.prog 77 #[.agg #[.int .i64 uk,.int .i64 ua,.slice B1 m1 d1,.slice B2 m2 d2,.string un,.int .i32 uc,.slice B3 m3 d3]] W fun e w'=>e= .returned (.bool pb)/\Below W.heap.size W w'):=fun W h=>HBA.out W h.bel
   have HIN:Hid (∀ W,D9 w0 g v (joinP l (accW tx kids i)) w wr.heap.size [.int .i64 uk,.int .i64 ua,.slice B1 m1 d1,.slice B2 m2 d2,.string un,.int .i32 uc,.slice B3 m3 d3] W->Calls Tryz.prog 76 #[.pointer (some ⟨g,0,none⟩),.agg #[.int .i64 uk,.int .i64 ua,.slice B1 m1 d1,.slice B2 m2 d2,.string un,.int .i32 uc,.slice B3 m3 d3],.bool pb] W fun e w'=>e= .returned (.tuple #[])/\D9 w0 g v (joinP (joinP l (accW tx kids i)) (wrapT pb (tx kids[i]))) w wr.heap.size [.int .i64 uk,.int .i64 ua,.slice B1 m1 d1,.slice B2 m2 d2,.string un,.int .i32 uc,.slice B3 m3 d3] w'):=fun W h=>d9_inside pb HND HR.out h HL0.out
   have HSA:Hid (∀ cu W,D9 w0 g v cu w wr.heap.size [.int .i64 uk,.int .i64 ua,.slice B1 m1 d1,.slice B2 m2 d2,.string un,.int .i32 uc,.slice B3 m3 d3] W->W.cell? ⟨wr.heap.size,0,none⟩=some (.int .i64 uk)/\W.cell? ⟨wr.heap.size,1,none⟩=some (.int .i64 ua)/\W.cell? ⟨wr.heap.size,2,none⟩=some (.slice B1 m1 d1)/\W.cell? ⟨wr.heap.size,3,none⟩=some (.slice B2 m2 d2)/\W.cell? ⟨wr.heap.size,4,none⟩=some (.string un)/\W.cell? ⟨wr.heap.size,5,none⟩=some (.int .i32 uc)/\W.cell? ⟨wr.heap.size,6,none⟩=some (.slice B3 m3 d3)):=fun cu W h=>h.c7
   obtain ⟨y0,y1,y2,y3,y4,y5,y6⟩:=kidC_of hce HBL.out
   clear hr hce hgd j0 e1 e3 e4 hW1 hd0 HBA
   go_upto_region 22 with fail
   rw [<- HW1.out]
   clear HW1 y0 y1 y2 y3 y4 y5 y6
   have hd0:=HD0.out.bstep (Below.refl _ W1).drew
   have hs1:=HSA.out _ _ hd0
   go_region_held3 (fun W=>W.cell? ⟨wr.heap.size,0,none⟩=some (.int .i64 uk)/\W.cell? ⟨wr.heap.size,1,none⟩=some (.int .i64 ua)/\W.cell? ⟨wr.heap.size,2,none⟩=some (.slice B1 m1 d1)/\W.cell? ⟨wr.heap.size,3,none⟩=some (.slice B2 m2 d2)/\W.cell? ⟨wr.heap.size,4,none⟩=some (.string un)/\W.cell? ⟨wr.heap.size,5,none⟩=some (.int .i32 uc)/\W.cell? ⟨wr.heap.size,6,none⟩=some (.slice B3 m3 d3))
    (first | assumption | exact hs1)
    (first
     | (go_at_call 77;refine (HPD.out _ (by assumption)).mono ?_;rintro e w52 ⟨rfl,hb2⟩;have h92:=(‹D9 _ _ _ _ _ _ _ _›).bstep hb2;have hs2:=HSA.out _ _ h92)
     | (go_at_call 76;refine (HIN.out _ (by assumption)).mono ?_;rintro e w53 ⟨rfl,hd⟩;have hs3:=HSA.out _ _ hd))
   all_goals
    have HF:Hid (Stepped w0 w g v (joinP l (accW tx kids (i+1))) w53):=by
     have h:=hd.stepped
     rw [joinP_assoc] at h
     unfold Hid;rw [HE.out];exact h
    clear hd hs1 hs2 hs3 h92 hd0
    go_wp2
    go_roundw
    case rel=>exact ⟨i+1,by omega,by go_num,HF.out⟩
    case measure=>simp [intOf];omega
  ·have hin:i=kids.length:=by have:=HN.out;omega
   have HF:Hid (Stepped w0 w g v (joinP l (accW tx kids kids.length)) wr):=by unfold Hid;rw [<- hin];exact hst.out
   clear hst hin
   go_wp2
   go_end0
   exact ⟨rfl,HF.out⟩
end Go.Proofs.YtbakjaliponbbaaGreatDoor
