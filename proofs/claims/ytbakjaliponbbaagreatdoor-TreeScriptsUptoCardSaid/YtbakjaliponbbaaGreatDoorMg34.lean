/- The walk of tree.Print; the example of layer 31, awake. The reference's GoodValue, GoodFun, GoodBind and kids tell which trees are .. Conditions: as each theorem says. -/
import Derived.Test.YtbakjaliponbbaaGreatDoorMg33
import Derived.Test.YtbakjaliponbbaaGreatDoorMg15
import Derived.Test.YtbakjaliponbbaaGreatDoorMg23
import Derived.Test.YtbakjaliponbbaaGreatDoorMg04
set_option maxRecDepth 100000
set_option maxHeartbeats 1600000
namespace Go.Proofs.YtbakjaliponbbaaGreatDoor
open Go Go.RowKit Go.Proofs Fl
theorem print_walk (t:RTree) (s:List Int) (v0 v1 v2 v3 v4 v5 v6:Value) (w:World) (hg:((gd t 0||gd t 1)&&dpB 40 t)=true) (hf:FitG t) (ht:TN w t [v0,v1,v2,v3,v4,v5,v6]) (hN:NodeP 38 w t s) (hl:2*s.length<=1099511627000) :
  Calls Tryz.prog 31 #[.agg #[v0,v1,v2,v3,v4,v5,v6]] w fun e w'=>(∃ v,e= .returned v/\Runes w' v s)/\Below w.heap.size w w':=by
 have HG:Hid (∀ W,Below w.heap.size w W->Calls Tryz.prog 32 #[.agg #[v0,v1,v2,v3,v4,v5,v6]] W fun e w'=>e= .returned (.bool true)/\Below W.heap.size W w'):=fun W hb=>by
  have:=good31_walk t v0 v1 v2 v3 v4 v5 v6 W hf (TN.below hb _ _ ht);rw [hg] at this;exact this
 have HN:Hid (∀ W g v l,Below w.heap.size w W->WSt W w.heap.size g v l->l.length+2*s.length<=1099511627000->Calls Tryz.prog 38 #[.pointer (some ⟨g,0,none⟩),.agg #[v0,v1,v2,v3,v4,v5,v6]] W fun e w'=>e= .returned (.tuple #[])/\Stepped w W g v (joinP l s) w'):=fun W g v l hb hw h=>hN _ _ _ _ _ _ _ W g v l ht hb hw h
 obtain ⟨k,a,c,name,A1,A2,A,n1,c1,n2,c2,m,cc,rfl,rfl,rfl,rfl,rfl,rfl,rfl⟩:=ht.shape
 have X0:=Lib.hid (boxedT w [.int .i64 k,.int .i64 a,.slice A1 n1 c1,.slice A2 n2 c2,.string name,.int .i32 c,.slice A m cc] 31)
 have HL:=Lib.hid hl
 clear hg hf ht hN hl
 go_enter Tryz.func31,Tryz.ntmps31
 go_wp2_with fail
 generalize w.alloc (.cells #[.int .i64 k,.int .i64 a,.slice A1 n1 c1,.slice A2 n2 c2,.string name,.int .i32 c,.slice A m cc] 31)=W at *
 (with_reducible refine (HG.out _ X0.out.bl).mono ?_)
 rintro e w1 ⟨rfl,hb⟩
 have X1:=Lib.hid (X0.out.step hb)
 have hba:=(Below.refl _ w1).alloc (Nat.le_refl _) (.cells #[.slice none 0 0] 86)
 have X2:=Lib.hid (X1.out.step hba)
 have hw2:WSt (w1.alloc (.cells #[.slice none 0 0] 86)) w.heap.size w1.heap.size (.slice none 0 0) [] :=
  ⟨X1.out.bl.size,heap_alloc_new w1 _,OwnR.nil _ _,by simp [Value.ownBlock]⟩
 have HNW:=Lib.hid (HN.out _ _ _ _ X2.out.bl hw2 (by simpa using HL.out))
 obtain ⟨x0,x1,x2,x3,x4,x5,x6⟩:=X1.out.c7
 obtain ⟨y0,y1,y2,y3,y4,y5,y6⟩:=X2.out.c7
 clear hb hba hw2
 go_wp2_with fail
 (with_reducible refine HNW.out.mono ?_)
 rintro e w3 ⟨rfl,v',hw3,hg3,hb3⟩
 rw [joinP_nil] at hw3
 have HR:=Lib.hid hw3.own.runes
 have HB3:=Lib.hid hb3
 obtain ⟨hc3,hf3⟩:=hw3.cell
 obtain ⟨A',cv',hv'⟩:=hw3.own.len
 subst hv'
 clear hw3 hg3 hb3 x0 x1 x2 x3 x4 x5 x6 y0 y1 y2 y3 y4 y5 y6
 have HR':=Lib.hid HR.out
 generalize s.length=sl at *
 go_wp2
 go_ret
 exact ⟨⟨_,rfl,HR.out⟩,HB3.out⟩
abbrev e0:ByteArray:=⟨#[]⟩
def exP:RTree := .mk 13 [] [] e0 43 []
def exO:RTree := .mk 16 [] [] e0 47 [exP]
def exW:RTree := .mk 5 [] [] e0 0 []
def exC:RTree := .mk 9 [] [] e0 0 [exO,exW]
theorem reads_nil (w:World) (f:List Value) (h:f=[]):Reads1 w (.slice none 0 0) f := .inl ⟨none,0,rfl,h⟩
theorem tn_leaf (w:World) (k c:Int):TN w (.mk k [] [] e0 c []) [.int .i64 k,.int .i64 0,.slice none 0 0,.slice none 0 0,.string e0,.int .i32 c,.slice none 0 0]:=by
 rw [TN]
 exact ⟨0,_,_,_,rfl,reads_nil w _ rfl,reads_nil w _ rfl,.inl ⟨rfl,none,0,rfl⟩⟩
theorem tn_kids (w:World) (k c:Int) (kids:List RTree) (b o cc:Nat) (hne:kids≠[]) (hc:kids.length<=cc) (h:TKs w b o kids) (m:Nat) (hm:m=kids.length):TN w (.mk k [] [] e0 c kids) [.int .i64 k,.int .i64 0,.slice none 0 0,.slice none 0 0,.string e0,.int .i32 c,.slice (some ⟨b,o,none⟩) m cc]:=by
 rw [TN]
 exact ⟨0,_,_,_,rfl,reads_nil w _ rfl,reads_nil w _ rfl,.inr ⟨hne,b,o,cc,by rw [hm],hc,h⟩⟩
theorem ex_fit:FitG exC:=by
 simp [FitG,FitGs,exC,exO,exW,exP];decide
theorem ex_good:((gd exC 0||gd exC 1)&&dpB 40 exC)=true:=by
 have h1:gd exP 1=true:=by unfold exP;rw [gd_1_13];decide+kernel
 have h2:gd exO 1=true:=by
  have:gds [exP] 1=true:=by rw [gds_eq];simp [h1]
  unfold exO;rw [gd_1_16,this];decide+kernel
 have h3:gd exW 0=true:=by unfold exW;rw [gd_0_5];decide+kernel
 have h4:gdh [exO,exW] 1 0=true:=by rw [gdh,gds_eq,h2];simp [h3]
 have h5:gd exC 0=true:=by unfold exC;rw [gd_0_9,h4];decide+kernel
 have h6:dpB 40 exC=true:=by simp [exC,exO,exW,exP,dpB]
 rw [h5,h6];rfl
theorem ex_node (w0:World):NodeP 38 w0 exC [43,47,9077]:=by
 have h:=node_more w0 9 (.inl rfl) [] [] e0 0 [exO,exW] _ (more_9 w0 [] [] e0 0 exO exW (joinP [43] [47]) [9077]
  (node_more w0 16 (.inr rfl) [] [] e0 47 [exP] _ (more_16 w0 [] [] e0 47 exP [43] (node_13 w0 [] [] e0 43 []))) (node_5 w0 [] [] e0 0 [])
  (slashed_16 w0 16 (.inl rfl) [] [] e0 47 exP [] false (by have:=slashed_13 w0 [] [] e0 43 [];exact this)) (by decide) (by decide))
 exact h
theorem conv_runes3 {w:World}{v:Value}{l:List Int} (h:Runes w v l) :
  (convert 27 9 v).run Tryz.prog w= .ok (.string (runesBytes l)) w:=by
 rcases h with ⟨a,c,rfl,rfl⟩ | ⟨b,o,n,c,rfl,hn,hc⟩
 ·rw [run_convert_runes_string (P:=Tryz.prog) w 27 9 21 _ _ _ Tryz.underlying27 Tryz.underlying21 Tryz.underlying9]
  cases a with
  | none=>rfl
  | some a=>exact run_runesToString w a 0 c [] (by simp [go_sem,loadCells,loadCellsFrom])
 ·have:=run_convert_runes (P:=Tryz.prog) w 27 9 21 ⟨b,o,none⟩ n c l (by omega) Tryz.underlying27 Tryz.underlying21 Tryz.underlying9 (by
   intro j hj
   have e:(⟨b,o,none⟩:Addr).add j=⟨b,o+j,none⟩:=by
    unfold Addr.add;split
    ·rename_i h0;subst h0;rfl
    ·rfl
   rw [e,hc j hj]
   simp [List.getD,hj])
  rw [this,List.take_of_length_le (by omega)]
theorem ex_tn (w:World):TN (((w.alloc (.cells #[.int .i64 13,.int .i64 0,.slice none 0 0,.slice none 0 0,.string e0,.int .i32 43,.slice none 0 0] 31)).alloc (.cells #[.int .i64 16,.int .i64 0,.slice none 0 0,.slice none 0 0,.string e0,.int .i32 47,.slice (some ⟨w.heap.size,0,none⟩) 1 1,.int .i64 5,.int .i64 0,.slice none 0 0,.slice none 0 0,.string e0,.int .i32 0,.slice none 0 0] 31)).alloc (.cells #[.int .i64 9,.int .i64 0,.slice none 0 0,.slice none 0 0,.string e0,.int .i32 0,.slice (some ⟨w.heap.size+1,0,none⟩) 2 2] 31)) exC [.int .i64 9,.int .i64 0,.slice none 0 0,.slice none 0 0,.string e0,.int .i32 0,.slice (some ⟨w.heap.size+1,0,none⟩) 2 2]:=by
 have hP:TKs (w.alloc (.cells #[.int .i64 13,.int .i64 0,.slice none 0 0,.slice none 0 0,.string e0,.int .i32 43,.slice none 0 0] 31)) w.heap.size 0 [exP]:=by
  rw [TKs,TKs]
  refine ⟨⟨.int .i64 13,.int .i64 0,.slice none 0 0,.slice none 0 0,.string e0,.int .i32 43,.slice none 0 0,?_,?_,?_,?_,?_,?_,?_,tn_leaf _ 13 43⟩,trivial⟩
  all_goals exact World.cell?_alloc_at _ _ _ _ rfl
 have hb1:Below (w.alloc (.cells #[.int .i64 13,.int .i64 0,.slice none 0 0,.slice none 0 0,.string e0,.int .i32 43,.slice none 0 0] 31)).heap.size (w.alloc (.cells #[.int .i64 13,.int .i64 0,.slice none 0 0,.slice none 0 0,.string e0,.int .i32 43,.slice none 0 0] 31)) ((w.alloc (.cells #[.int .i64 13,.int .i64 0,.slice none 0 0,.slice none 0 0,.string e0,.int .i32 43,.slice none 0 0] 31)).alloc (.cells #[.int .i64 16,.int .i64 0,.slice none 0 0,.slice none 0 0,.string e0,.int .i32 47,.slice (some ⟨w.heap.size,0,none⟩) 1 1,.int .i64 5,.int .i64 0,.slice none 0 0,.slice none 0 0,.string e0,.int .i32 0,.slice none 0 0] 31)):=(Below.refl _ _).alloc (Nat.le_refl _) _
 have hO:TKs ((w.alloc (.cells #[.int .i64 13,.int .i64 0,.slice none 0 0,.slice none 0 0,.string e0,.int .i32 43,.slice none 0 0] 31)).alloc (.cells #[.int .i64 16,.int .i64 0,.slice none 0 0,.slice none 0 0,.string e0,.int .i32 47,.slice (some ⟨w.heap.size,0,none⟩) 1 1,.int .i64 5,.int .i64 0,.slice none 0 0,.slice none 0 0,.string e0,.int .i32 0,.slice none 0 0] 31)) (w.heap.size+1) 0 [exO,exW]:=by
  rw [TKs,TKs,TKs]
  refine ⟨⟨.int .i64 16,.int .i64 0,.slice none 0 0,.slice none 0 0,.string e0,.int .i32 47,.slice (some ⟨w.heap.size,0,none⟩) 1 1,?_,?_,?_,?_,?_,?_,?_,tn_kids _ 16 47 [exP] _ _ _ (by simp) (by simp) (TKs.below hb1 _ _ _ hP) 1 rfl⟩,
   ⟨.int .i64 5,.int .i64 0,.slice none 0 0,.slice none 0 0,.string e0,.int .i32 0,.slice none 0 0,?_,?_,?_,?_,?_,?_,?_,tn_leaf _ 5 0⟩,trivial⟩
  all_goals exact World.cell?_alloc_at _ _ _ _ (by simp)
 exact tn_kids _ 9 0 [exO,exW] _ _ _ (by simp) (by simp) (TKs.below ((Below.refl _ _).alloc (Nat.le_refl _) _) _ _ _ hO) 2 rfl
theorem awake31_walk (w:World):Calls Tryz.prog 6 #[] w fun e w'=>e= .returned (.bool true)/\Below w.heap.size w w':=by
 have ht:=ex_tn w
 have hb0:Below w.heap.size w (((w.alloc (.cells #[.int .i64 13,.int .i64 0,.slice none 0 0,.slice none 0 0,.string e0,.int .i32 43,.slice none 0 0] 31)).alloc (.cells #[.int .i64 16,.int .i64 0,.slice none 0 0,.slice none 0 0,.string e0,.int .i32 47,.slice (some ⟨w.heap.size,0,none⟩) 1 1,.int .i64 5,.int .i64 0,.slice none 0 0,.slice none 0 0,.string e0,.int .i32 0,.slice none 0 0] 31)).alloc (.cells #[.int .i64 9,.int .i64 0,.slice none 0 0,.slice none 0 0,.string e0,.int .i32 0,.slice (some ⟨w.heap.size+1,0,none⟩) 2 2] 31)):=(((Below.refl _ w).alloc (Nat.le_refl _) _).alloc (by simp) _).alloc (by simp;omega) _
 have HPR:=Lib.hid (print_walk exC [43,47,9077] _ _ _ _ _ _ _ _ ex_good ex_fit ht (ex_node _) (by decide))
 have HGD:Hid (∀ W,Below (((w.alloc (.cells #[.int .i64 13,.int .i64 0,.slice none 0 0,.slice none 0 0,.string e0,.int .i32 43,.slice none 0 0] 31)).alloc (.cells #[.int .i64 16,.int .i64 0,.slice none 0 0,.slice none 0 0,.string e0,.int .i32 47,.slice (some ⟨w.heap.size,0,none⟩) 1 1,.int .i64 5,.int .i64 0,.slice none 0 0,.slice none 0 0,.string e0,.int .i32 0,.slice none 0 0] 31)).alloc (.cells #[.int .i64 9,.int .i64 0,.slice none 0 0,.slice none 0 0,.string e0,.int .i32 0,.slice (some ⟨w.heap.size+1,0,none⟩) 2 2] 31)).heap.size (((w.alloc (.cells #[.int .i64 13,.int .i64 0,.slice none 0 0,.slice none 0 0,.string e0,.int .i32 43,.slice none 0 0] 31)).alloc (.cells #[.int .i64 16,.int .i64 0,.slice none 0 0,.slice none 0 0,.string e0,.int .i32 47,.slice (some ⟨w.heap.size,0,none⟩) 1 1,.int .i64 5,.int .i64 0,.slice none 0 0,.slice none 0 0,.string e0,.int .i32 0,.slice none 0 0] 31)).alloc (.cells #[.int .i64 9,.int .i64 0,.slice none 0 0,.slice none 0 0,.string e0,.int .i32 0,.slice (some ⟨w.heap.size+1,0,none⟩) 2 2] 31)) W->Calls Tryz.prog 32 #[.agg #[.int .i64 9,.int .i64 0,.slice none 0 0,.slice none 0 0,.string e0,.int .i32 0,.slice (some ⟨w.heap.size+1,0,none⟩) 2 2]] W fun e w'=>e= .returned (.bool true)/\Below W.heap.size W w'):=fun W hb=>by
  have:=good31_walk exC _ _ _ _ _ _ _ W ex_fit (TN.below hb _ _ ht);rw [ex_good] at this;exact this
 have HCT:Hid (∀ W,Below (((w.alloc (.cells #[.int .i64 13,.int .i64 0,.slice none 0 0,.slice none 0 0,.string e0,.int .i32 43,.slice none 0 0] 31)).alloc (.cells #[.int .i64 16,.int .i64 0,.slice none 0 0,.slice none 0 0,.string e0,.int .i32 47,.slice (some ⟨w.heap.size,0,none⟩) 1 1,.int .i64 5,.int .i64 0,.slice none 0 0,.slice none 0 0,.string e0,.int .i32 0,.slice none 0 0] 31)).alloc (.cells #[.int .i64 9,.int .i64 0,.slice none 0 0,.slice none 0 0,.string e0,.int .i32 0,.slice (some ⟨w.heap.size+1,0,none⟩) 2 2] 31)).heap.size (((w.alloc (.cells #[.int .i64 13,.int .i64 0,.slice none 0 0,.slice none 0 0,.string e0,.int .i32 43,.slice none 0 0] 31)).alloc (.cells #[.int .i64 16,.int .i64 0,.slice none 0 0,.slice none 0 0,.string e0,.int .i32 47,.slice (some ⟨w.heap.size,0,none⟩) 1 1,.int .i64 5,.int .i64 0,.slice none 0 0,.slice none 0 0,.string e0,.int .i32 0,.slice none 0 0] 31)).alloc (.cells #[.int .i64 9,.int .i64 0,.slice none 0 0,.slice none 0 0,.string e0,.int .i32 0,.slice (some ⟨w.heap.size+1,0,none⟩) 2 2] 31)) W->Calls Tryz.prog 33 #[.agg #[.int .i64 9,.int .i64 0,.slice none 0 0,.slice none 0 0,.string e0,.int .i32 0,.slice (some ⟨w.heap.size+1,0,none⟩) 2 2]] W fun e w'=>e= .returned (.int .i64 4)/\Below W.heap.size W w'):=fun W hb=>by
  have hsz:sizeR exC=4:=by simp [exC,exO,exW,exP,sizeR,sizeRs]
  have:=tCount_walk 4 exC _ _ _ _ _ _ _ W (by omega) (by omega) (TN.below hb _ _ ht)
  rw [hsz] at this;exact this
 have HCL:Hid (∀ W,Below (((w.alloc (.cells #[.int .i64 13,.int .i64 0,.slice none 0 0,.slice none 0 0,.string e0,.int .i32 43,.slice none 0 0] 31)).alloc (.cells #[.int .i64 16,.int .i64 0,.slice none 0 0,.slice none 0 0,.string e0,.int .i32 47,.slice (some ⟨w.heap.size,0,none⟩) 1 1,.int .i64 5,.int .i64 0,.slice none 0 0,.slice none 0 0,.string e0,.int .i32 0,.slice none 0 0] 31)).alloc (.cells #[.int .i64 9,.int .i64 0,.slice none 0 0,.slice none 0 0,.string e0,.int .i32 0,.slice (some ⟨w.heap.size+1,0,none⟩) 2 2] 31)).heap.size (((w.alloc (.cells #[.int .i64 13,.int .i64 0,.slice none 0 0,.slice none 0 0,.string e0,.int .i32 43,.slice none 0 0] 31)).alloc (.cells #[.int .i64 16,.int .i64 0,.slice none 0 0,.slice none 0 0,.string e0,.int .i32 47,.slice (some ⟨w.heap.size,0,none⟩) 1 1,.int .i64 5,.int .i64 0,.slice none 0 0,.slice none 0 0,.string e0,.int .i32 0,.slice none 0 0] 31)).alloc (.cells #[.int .i64 9,.int .i64 0,.slice none 0 0,.slice none 0 0,.string e0,.int .i32 0,.slice (some ⟨w.heap.size+1,0,none⟩) 2 2] 31)) W->W.cell? ⟨w.heap.size+2,0,none⟩=some (.int .i64 9)/\W.cell? ⟨w.heap.size+2,1,none⟩=some (.int .i64 0)/\W.cell? ⟨w.heap.size+2,2,none⟩=some (.slice none 0 0)/\W.cell? ⟨w.heap.size+2,3,none⟩=some (.slice none 0 0)/\W.cell? ⟨w.heap.size+2,4,none⟩=some (.string e0)/\W.cell? ⟨w.heap.size+2,5,none⟩=some (.int .i32 0)/\W.cell? ⟨w.heap.size+2,6,none⟩=some (.slice (some ⟨w.heap.size+1,0,none⟩) 2 2)):=by
  intro W hb
  have k:∀ i,W.cell? ⟨w.heap.size+2,i,none⟩=(((w.alloc (.cells #[.int .i64 13,.int .i64 0,.slice none 0 0,.slice none 0 0,.string e0,.int .i32 43,.slice none 0 0] 31)).alloc (.cells #[.int .i64 16,.int .i64 0,.slice none 0 0,.slice none 0 0,.string e0,.int .i32 47,.slice (some ⟨w.heap.size,0,none⟩) 1 1,.int .i64 5,.int .i64 0,.slice none 0 0,.slice none 0 0,.string e0,.int .i32 0,.slice none 0 0] 31)).alloc (.cells #[.int .i64 9,.int .i64 0,.slice none 0 0,.slice none 0 0,.string e0,.int .i32 0,.slice (some ⟨w.heap.size+1,0,none⟩) 2 2] 31)).cell? ⟨w.heap.size+2,i,none⟩:=fun i=>hb.cell (p:=⟨w.heap.size+2,i,none⟩) (by simp)
  refine ⟨?_,?_,?_,?_,?_,?_,?_⟩
  all_goals rw [k,World.cell?_alloc_at _ _ _ _ (by simp)];rfl
 have HB0:=Lib.hid hb0
 have hre:runesBytes [43,47,9077]=⟨#[43,47,226,141,181]⟩:=by decide+kernel
 have HRE:=Lib.hid hre
 have hsq:((⟨#[43,47,226,141,181]⟩:ByteArray).toList==(⟨#[43,47,226,141,181]⟩:ByteArray).toList)=true:=by simp
 clear ht hb0 hre
 go_enter Tryz.func6,Tryz.ntmps6
 go_wp2_with fail
 generalize hW:(((w.alloc (.cells #[.int .i64 13,.int .i64 0,.slice none 0 0,.slice none 0 0,.string e0,.int .i32 43,.slice none 0 0] 31)).alloc (.cells #[.int .i64 16,.int .i64 0,.slice none 0 0,.slice none 0 0,.string e0,.int .i32 47,.slice (some ⟨w.heap.size,0,none⟩) 1 1,.int .i64 5,.int .i64 0,.slice none 0 0,.slice none 0 0,.string e0,.int .i32 0,.slice none 0 0] 31)).alloc (.cells #[.int .i64 9,.int .i64 0,.slice none 0 0,.slice none 0 0,.string e0,.int .i32 0,.slice (some ⟨w.heap.size+1,0,none⟩) 2 2] 31))=W at *
 clear hW
 (with_reducible refine HPR.out.mono ?_)
 rintro e w1 ⟨⟨v,rfl,hr⟩,hb⟩
 have hcv:=conv_runes3 hr
 rw [HRE.out] at hcv
 obtain ⟨A,cc,n,rfl,-,-⟩:=hr.opn
 obtain ⟨x0,x1,x2,x3,x4,x5,x6⟩:=HCL.out w1 hb
 have HB1:=Lib.hid hb
 clear hb hr
 go_wp2_with fail
 (with_reducible refine (HGD.out _ HB1.out).mono ?_)
 rintro e w2 ⟨rfl,hb⟩
 have HB2:=Lib.hid (HB1.out.trans (hb.mono HB1.out.size))
 clear hb x0 x1 x2 x3 x4 x5 x6 hcv
 obtain ⟨x0,x1,x2,x3,x4,x5,x6⟩:=HCL.out w2 HB2.out
 go_wp2_with fail
 (with_reducible refine (HCT.out _ HB2.out).mono ?_)
 rintro e w3 ⟨rfl,hb⟩
 have HB3:=Lib.hid (HB0.out.trans ((HB2.out.trans (hb.mono HB2.out.size)).mono HB0.out.size))
 clear hb x0 x1 x2 x3 x4 x5 x6
 go_wp2
 go_ret
 exact ⟨rfl,HB3.out⟩
theorem rfin_any (b:Nat) (hb:b < 18446744073709551616) (w:World):Calls Tryz.prog 54 #[.float .f64 b] w fun e w'=>e= .returned (.bool (isFin b))/\w=w':=by
 rcases classify b hb with ⟨s,Z,hz,rfl⟩ | ⟨s,rfl⟩ | h
 ·rw [isFin_W s hz];exact finite_num s hz w
 ·rw [isFin_inf];exact finite_inf s w
 ·rw [isFin_nan h];exact finite_nan h w
theorem rval_1 {N:Nat}{A1:Option Addr}{n1 c1:Nat}{A2:Option Addr}{n2 c2:Nat}{name:ByteArray}{c:Int}{m cc:Nat}{nums:List Nat}{text:List Int}{w:World}{A:Option Addr}{kids:List RTree}
  (HY:Hid (NodR N w A1 n1 c1 A2 n2 c2 name A m cc nums text kids))
  : Calls Tryz.prog 24 #[.agg #[.int .i64 1,.slice A1 n1 c1,.slice A2 n2 c2,.string name,.int .i32 c,.slice A m cc]] w fun e w'=>e= .returned (.bool (gd (.mk 1 nums text name c kids) 0))/\Below w.heap.size w w':=by
 obtain ⟨R,hR⟩:∃ R,R=gd (.mk 1 nums text name c kids) 0:=⟨_,rfl⟩
 have HR:Hid (R=(onlyB 1 nums text name c&&nums.all isFin&&(decide (0 < n1)&&decide ((m:Int)=0)))):=by
  unfold Hid
  rw [hR,gd_0_1,pl_n (by decide),HY.out.hn,HY.out.hm]
  unfold onlyB
  rw [show nmK 1=false from rfl,show chK 1=false from rfl]
  cases plainB 1 nums text name c [] (-1) false false <;> cases decide (0 < nums.length) <;> cases decide ((kids.length:Int)=0) <;> cases nums.all isFin <;> rfl
 rw [<- hR]
 clear hR
 obtain ⟨b1,hb1⟩:∃ b:Bool,b=onlyB 1 nums text name c:=⟨_,rfl⟩
 have C1:Hid (∀ W,Below w.heap.size w W->Calls Tryz.prog 53 #[.agg #[.int .i64 1,.slice A1 n1 c1,.slice A2 n2 c2,.string name,.int .i32 c,.slice A m cc]] W fun e w'=>e= .returned (.bool b1)/\Below W.heap.size W w'):=by
  unfold Hid;rw [hb1];intro W _;exact only_walk 1 A1 n1 c1 A2 n2 c2 name c A m cc nums text HY.out.hn HY.out.ht W
 rw [<- hb1] at HR
 clear hb1
 have HY1:Hid (R=false\/b1=true):=by
  unfold Hid;rw [HR.out];cases b1 <;> simp
 have HNO:Hid (∀ x∈nums,isFin x=false->R=false):=fun x hx h=>by
  have e:nums.all isFin=false:=by rw [List.all_eq_false];exact ⟨x,hx,by rw [h];simp⟩
  rw [HR.out,e];simp
 have HYS:Hid (b1=true->(∀ x∈nums,isFin x=true)->R=(decide (0 < n1)&&decide ((m:Int)=0))):=fun h h2=>by
  have e:nums.all isFin=true:=by rw [List.all_eq_true];exact h2
  rw [HR.out,e,h];rfl
 obtain ⟨A1',cc1,n1',e1,hn1,hcell⟩:=HY.out.hrn.opn
 injection e1 with q1 q2 q3
 subst q1;subst q2;subst q3
 have hn2:n1<=1048576:=by have:=HY.out.hn;have:=HY.out.fn;omega
 have HC:Hid (∀ i (hi:i < nums.length),∃ b o,A1=some ⟨b,o,none⟩/\∀ W,Below w.heap.size w W->W.cell? ⟨b,o+i,none⟩=some (.float .f64 nums[i])):=fun i hi=>by
  obtain ⟨b,o,h1,h2⟩:=hcell i (by simpa using hi)
  exact ⟨b,o,h1,fun W hb=>by rw [h2 W hb];simp⟩
 have HN:=Lib.hid HY.out.hn
 have HF:Hid (∀ i (hi:i < nums.length) W,Calls Tryz.prog 54 #[.float .f64 nums[i]] W fun e w'=>e= .returned (.bool (isFin nums[i]))/\W=w'):=fun i hi W=>rfin_any _ (HY.out.fx _ (List.getElem_mem hi)) W
 have X0:=Lib.hid (boxedT w [.int .i64 1,.slice A1 n1 c1,.slice A2 n2 c2,.string name,.int .i32 c,.slice A m cc] 29)
 clear HY hn1 hcell HR
 go_enter Tryz.func24,Tryz.ntmps24
 go_wp2_with fail
 generalize w.alloc (.cells #[.int .i64 1,.slice A1 n1 c1,.slice A2 n2 c2,.string name,.int .i32 c,.slice A m cc] 29)=W at *
 refine (C1.out _ X0.out.2.1).mono ?_
 rintro e w1 ⟨rfl,hb⟩
 have X1:=Lib.hid (X0.out.step hb)
 clear hb
 obtain ⟨x0,x1,x2,x3,x4,x5⟩:=X1.out.c6
 cases b1
 case false =>
  have HT:Hid (R=false):=HY1.out.resolve_right (by simp)
  go_wp2
  go_ret
  exact ⟨by rw [HT.out];rfl,X1.out.2.1⟩
 go_wp2
 go_loopw [4] (fun iv wr=>wr=w1/\∃ k:Nat,k<=n1/\iv= .int .i64 (k:Int)/\Hid (∀ i (hi:i < nums.length),i < k->isFin nums[i]=true)) (fun iv _=>n1 - (intOf iv).toNat)
 case atStart=>exact ⟨rfl,0,Nat.zero_le _,rfl,fun i _ h=>absurd h (by omega)⟩
 case round =>
  obtain ⟨rfl,k,hk,rfl,hall⟩:=hrel
  by_cases hlt:k < n1
  ·have hik:k < nums.length:=by have:=HN.out;omega
   obtain ⟨b,o,rfl,hce⟩:=HC.out k hik
   have hce2:=hce _ X1.out.2.1
   have HFC:=Lib.hid (HF.out k hik wr)
   have HNK:=Lib.hid (HNO.out nums[k] (List.getElem_mem hik))
   have HAK:Hid (isFin nums[k]=true->∀ i (hi:i < nums.length),i < k+1->isFin nums[i]=true):=by
    intro hp i hi h
    rcases Nat.lt_or_ge i k with h1 | h1
    ·exact hall.out i hi h1
    ·obtain rfl:i=k:=by omega
     exact hp
   have hlt2:(k:Int) < (n1:Int):=by omega
   clear hall hce
   generalize isFin nums[k]=pb at *
   generalize nums[k]=x at *
   go_wp2_with fail
   refine HFC.out.mono ?_
   rintro e w2 ⟨rfl,rfl⟩
   cases pb with
   | false =>
    have HT:=Lib.hid (HNK.out rfl)
    go_wp2
    go_ret
    exact ⟨by rw [HT.out];rfl,X1.out.2.1⟩
   | true =>
    have HA:=Lib.hid (HAK.out rfl)
    go_wp2
    go_roundw
    case rel=>exact ⟨by trivial,k+1,by omega,by go_num,HA.out⟩
    case measure=>simp [intOf];omega
  ·have hk2:k=n1:=by omega
   have HT:Hid (R=(decide (0 < n1)&&decide ((m:Int)=0))):=HYS.out (by trivial) fun x hx=>by
    obtain ⟨i,hi,rfl⟩:=List.getElem_of_mem hx
    exact hall.out i hi (by have:=HN.out;omega)
   have hge:¬ (k:Int) < (n1:Int):=by omega
   clear hall
   by_cases h0:0 < n1
   ·have z0:(0:Int) < (n1:Int):=by omega
    have z1:decide ((0:Int) < (n1:Int))=true:=decide_eq_true z0
    obtain ⟨bm,hbm⟩:∃ bm:Bool,((m:Int)==0)=bm:=⟨_,rfl⟩
    have HT2:Hid (R=bm):=by unfold Hid;rw [HT.out,decide_eq_true h0,<- hbm];rfl
    clear HT
    go_wp2
    go_ret
    exact ⟨by rw [HT2.out];rfl,X1.out.2.1⟩
   ·have z0:¬ (0:Int) < (n1:Int):=by omega
    have z1:decide ((0:Int) < (n1:Int))=false:=decide_eq_false z0
    have HT2:Hid (R=false):=by unfold Hid;rw [HT.out,decide_eq_false h0];rfl
    clear HT
    go_wp2
    go_ret
    exact ⟨by rw [HT2.out];rfl,X1.out.2.1⟩
end Go.Proofs.YtbakjaliponbbaaGreatDoor
