/- Walks of package lex and of its reference: in, IsVerb, In, Verbs, letter, digit. Walks of slices.IndexFunc and slices.ContainsFunc over runes. Walks of .. Conditions: as each theorem says. -/
import Derived.Test.YtbakjaliponbbaaGreatDoorMg00
import Derived.BigQuiet
set_option maxRecDepth 100000
namespace Go.Proofs.YtbakjaliponbbaaGreatDoor
open Go Go.RowKit Go.Proofs
theorem in_walk (c:Int) (s:ByteArray) (w:World):Calls Tryz.prog 172 #[.int .i32 c,.string s] w fun e w'=>e= .returned (.bool (decide (c∈runesOf s)))/\Below w.heap.size w w':=by
 obtain ⟨R,hR⟩:∃ R,R=decide (c∈runesOf s):=⟨_,rfl⟩
 have HR0:Hid (R=decide (c∈rl s (s.size - 0) 0)):=hR
 rw [<- hR]
 clear hR
 go_enter Tryz.func172,Tryz.ntmps172
 go_wp2
 go_loopw [6] (fun _ wr=>∃ pos,wr=w.iter s pos/\Hid (R=decide (c∈rl s (s.size - pos) pos))) (fun _ wr=>s.size - wr.iterPos w.heap.size)
 case atStart=>exact ⟨0,rfl,HR0.out⟩
 case round =>
  obtain ⟨pos,rfl,hrel⟩:=hrel
  by_cases h:pos < s.size
  ·have hnx:=fun ty=>run_next_any (P:=Tryz.prog) w s pos ty h
   have HS:=Lib.hid (rl_step s h)
   have hwd:=Lib.decode_width_pos s pos h
   generalize Utf8.decode s pos=d at *
   obtain ⟨x,k⟩:=d
   simp only at hnx hwd HS
   by_cases hc:c=(x:Int)
   ·have HT:Hid (R=true):=by unfold Hid;rw [hrel.out,HS.out];simp [hc]
    subst hc
    go_wp2
    go_ret
    exact ⟨by rw [HT.out];rfl,(Below.refl _ w).alloc (Nat.le_refl _) _⟩
   ·have HT:Hid (R=decide (c∈rl s (s.size - (pos+k)) (pos+k))):=by unfold Hid;rw [hrel.out,HS.out];simp [hc]
    have hc2:((x:Int)==c)=false:=by simp;omega
    clear HS
    go_wp2
    go_roundw
    case rel=>exact ⟨pos+k,rfl,HT.out⟩
    case measure=>simp;omega
  ·have hnx:=fun ty=>run_next_end (P:=Tryz.prog) w s pos ty h
   have HT:Hid (R=false):=by unfold Hid;rw [hrel.out,rl_end s (by omega)];simp
   go_wp2
   go_ret
   exact ⟨by rw [HT.out];rfl,(Below.refl _ w).alloc (Nat.le_refl _) _⟩
def letB (c:Int):Bool:=decide (97<=c/\c<=122\/65<=c/\c<=90\/c=95\/c=8710)
def digB (c:Int):Bool:=decide (48<=c/\c<=57)
theorem letB_yes {c:Int} (h:97<=c/\c<=122\/65<=c/\c<=90\/c=95\/c=8710):letB c=true:=decide_eq_true h
theorem letB_no {c:Int} (h:¬ (97<=c/\c<=122\/65<=c/\c<=90\/c=95\/c=8710)):letB c=false:=decide_eq_false h
theorem digB_yes {c:Int} (h:48<=c/\c<=57):digB c=true:=decide_eq_true h
theorem digB_no {c:Int} (h:¬ (48<=c/\c<=57)):digB c=false:=decide_eq_false h
theorem letB_parts (c:Int):(c < 65/\c < 95/\letB c=false)\/(65<=c/\c<=90/\letB c=true)\/(90 < c/\c < 95/\letB c=false)\/(c=95/\letB c=true)\/(c=96/\letB c=false)\/(97<=c/\c<=122/\letB c=true)\/(122 < c/\c < 8710/\letB c=false)\/(c=8710/\letB c=true)\/(8710 < c/\letB c=false):=by
 rcases (show c < 65\/(65<=c/\c<=90)\/(90 < c/\c < 95)\/c=95\/c=96\/(97<=c/\c<=122)\/(122 < c/\c < 8710)\/c=8710\/8710 < c by omega) with h | h | h | h | h | h | h | h | h
 ·exact .inl ⟨h,by omega,letB_no (by omega)⟩
 ·exact .inr (.inl ⟨h.1,h.2,letB_yes (by omega)⟩)
 ·exact .inr (.inr (.inl ⟨h.1,h.2,letB_no (by omega)⟩))
 ·exact .inr (.inr (.inr (.inl ⟨h,letB_yes (by omega)⟩)))
 ·exact .inr (.inr (.inr (.inr (.inl ⟨h,letB_no (by omega)⟩))))
 ·exact .inr (.inr (.inr (.inr (.inr (.inl ⟨h.1,h.2,letB_yes (by omega)⟩)))))
 ·exact .inr (.inr (.inr (.inr (.inr (.inr (.inl ⟨h.1,h.2,letB_no (by omega)⟩))))))
 ·exact .inr (.inr (.inr (.inr (.inr (.inr (.inr (.inl ⟨h,letB_yes (by omega)⟩)))))))
 ·exact .inr (.inr (.inr (.inr (.inr (.inr (.inr (.inr ⟨h,letB_no (by omega)⟩)))))))
theorem digB_parts (c:Int):(c < 48/\digB c=false)\/(48<=c/\c<=57/\digB c=true)\/(57 < c/\digB c=false):=by
 rcases (show c < 48\/(48<=c/\c<=57)\/57 < c by omega) with h | h | h
 ·exact .inl ⟨h,digB_no (by omega)⟩
 ·exact .inr (.inl ⟨h.1,h.2,digB_yes (by omega)⟩)
 ·exact .inr (.inr ⟨h,digB_no (by omega)⟩)
theorem letter_walk (c:Int) (w:World):Calls Tryz.prog 168 #[.int .i32 c] w fun e w'=>e= .returned (.bool (letB c))/\w=w':=by
 rcases letB_parts c with ⟨h,h2,hT⟩ | ⟨h,h2,hT⟩ | ⟨h,h2,hT⟩ | ⟨h,hT⟩ | ⟨h,hT⟩ | ⟨h,h2,hT⟩ | ⟨h,h2,hT⟩ | ⟨h,hT⟩ | ⟨h,hT⟩
 all_goals
  have HT:=Lib.hid hT
  clear hT
  generalize letB c=R at *
  try subst h
  go_enter Tryz.func168,Tryz.ntmps168
  go_wp2
  go_ret
  exact ⟨by rw [HT.out];first | rfl | (show Ending.returned (Value.bool _)=_;refine congrArg (fun b=>Ending.returned (Value.bool b)) ?_;simp;omega),rfl⟩
theorem rLetter_walk (c:Int) (w:World):Calls Tryz.prog 161 #[.int .i32 c] w fun e w'=>e= .returned (.bool (letB c))/\w=w':=by
 rcases letB_parts c with ⟨h,h2,hT⟩ | ⟨h,h2,hT⟩ | ⟨h,h2,hT⟩ | ⟨h,hT⟩ | ⟨h,hT⟩ | ⟨h,h2,hT⟩ | ⟨h,h2,hT⟩ | ⟨h,hT⟩ | ⟨h,hT⟩
 all_goals
  have HT:=Lib.hid hT
  clear hT
  generalize letB c=R at *
  try subst h
  go_enter Tryz.func161,Tryz.ntmps161
  go_wp2
  go_ret
  exact ⟨by rw [HT.out];first | rfl | (show Ending.returned (Value.bool _)=_;refine congrArg (fun b=>Ending.returned (Value.bool b)) ?_;simp;omega),rfl⟩
theorem digit_walk (c:Int) (w:World):Calls Tryz.prog 170 #[.int .i32 c] w fun e w'=>e= .returned (.bool (digB c))/\w=w':=by
 rcases digB_parts c with ⟨h,hT⟩ | ⟨h,h2,hT⟩ | ⟨h,hT⟩
 all_goals
  have HT:=Lib.hid hT
  clear hT
  generalize digB c=R at *
  try subst h
  go_enter Tryz.func170,Tryz.ntmps170
  go_wp2
  go_ret
  exact ⟨by rw [HT.out];first | rfl | (show Ending.returned (Value.bool _)=_;refine congrArg (fun b=>Ending.returned (Value.bool b)) ?_;simp;omega),rfl⟩
theorem rDigit_walk (c:Int) (w:World):Calls Tryz.prog 162 #[.int .i32 c] w fun e w'=>e= .returned (.bool (digB c))/\w=w':=by
 rcases digB_parts c with ⟨h,hT⟩ | ⟨h,h2,hT⟩ | ⟨h,hT⟩
 all_goals
  have HT:=Lib.hid hT
  clear hT
  generalize digB c=R at *
  try subst h
  go_enter Tryz.func162,Tryz.ntmps162
  go_wp2
  go_ret
  exact ⟨by rw [HT.out];first | rfl | (show Ending.returned (Value.bool _)=_;refine congrArg (fun b=>Ending.returned (Value.bool b)) ?_;simp;omega),rfl⟩
def oddB (c:Int):Bool := !letB c&&!digB c
theorem odd_walk (c:Int) (w:World):Calls Tryz.prog 169 #[.int .i32 c] w fun e w'=>e= .returned (.bool (oddB c))/\w=w':=by
 have HO:Hid (oddB c=(!letB c&&!digB c)):=rfl
 go_enter Tryz.func169,Tryz.ntmps169
 go_wp2_with fail
 refine (letter_walk c _).mono ?_
 rintro e w' ⟨rfl,rfl⟩
 cases hb:letB c
 ·have HT:Hid (oddB c = !digB c):=by unfold Hid;rw [HO.out,hb];rfl
  clear hb
  go_wp2_with fail
  refine (digit_walk c _).mono ?_
  rintro e w' ⟨rfl,rfl⟩
  go_wp2
  go_ret
  exact ⟨by rw [HT.out];rfl,rfl⟩
 ·have HT:Hid (oddB c=false):=by unfold Hid;rw [HO.out,hb];rfl
  clear hb
  go_wp2
  go_ret
  exact ⟨by rw [HT.out];rfl,rfl⟩
theorem Runes.opn {w:World}{v:Value}{l:List Int} (h:Runes w v l):∃ A cc n,v= .slice A n cc/\n=l.length /\
  ∀ i,i < l.length->∃ b o,A=some ⟨b,o,none⟩/\∀ w1,Below w.heap.size w w1->w1.cell? ⟨b,o+i,none⟩=some (.int .i32 (l.getD i 0)):=by
 rcases h with ⟨a,c,rfl,rfl⟩ | ⟨b,o,n,c,rfl,hn,hc⟩
 ·exact ⟨a,c,0,rfl,rfl,fun i hi=>by simp at hi⟩
 ·refine ⟨_,c,n,rfl,hn,fun i hi=>⟨b,o,rfl,fun w1 hb=>?_⟩⟩
  have:=hc i hi
  rw [hb.cell (cell_lt this),this]
  simp [List.getD,hi]
theorem any_at {l:List Int}{p:Int->Bool}{k:Nat} (hk:k < l.length) (h:p (l.getD k 0)=true):l.any p=true:=by
 rw [List.any_eq_true];exact ⟨l[k],List.getElem_mem hk,by simpa [List.getD,hk] using h⟩
theorem any_no {l:List Int}{p:Int->Bool} (h:∀ k,k < l.length->p (l.getD k 0)=false):l.any p=false:=by
 rw [List.any_eq_false];intro x hx;obtain ⟨k,hk,rfl⟩:=List.getElem_of_mem hx;simpa [List.getD,hk] using h k hk
def IdxTells (R:Bool) (e:Ending):Prop:=∃ k:Int,e= .returned (.int .i64 k)/\-1<=k/\decide (0<=k)=R
theorem index_walk (v : Value) (l : List Int) (w : World) (hr : Runes w v l) (hl : l.length ≤ 140737488351232) (f : FuncId) (p : Int → Bool) (fn : Func) (hfn : Tryz.prog.funcs[f]? = some fn) (hnm : (fn.name == "runtime.NumGoroutine") = false) (co : Code) (hco : fn.body = some co) (hf : ∀ c w, Calls Tryz.prog f #[.int .i32 c] w fun e w' => e = .returned (.bool (p c)) ∧ w = w') :
  Calls Tryz.prog 167 #[v,.func (.func f) #[] #[]] w fun e w'=>IdxTells (l.any p) e/\w=w':=by
 obtain ⟨A,cc,n,rfl,hn,hcell⟩:=hr.opn
 have HC:=Lib.hid hcell
 have HN:=Lib.hid hn
 have HF:=Lib.hid hf
 have hcf:∀ (args:Array Value) (w:World),(callFunc f args).run Tryz.prog w= .ok (.enter f args) w:=by
  intro args w
  have h1 : fn.name ≠ "runtime.NumGoroutine" := by simpa using hnm
  simp [callFunc,hfn,h1,hco]
 have hn2:n<=140737488351232:=by omega
 have HY:Hid (∀ k,k < l.length->p (l.getD k 0)=true->l.any p=true):=fun k h h2=>any_at h h2
 have HX:Hid ((∀ k,k < l.length->p (l.getD k 0)=false)->l.any p=false):=fun h=>any_no h
 clear hcell hn hf hr hl hfn hnm hco
 go_enter Tryz.func167,Tryz.ntmps167
 go_wp2
 go_loop [5,8] (fun _ i=>∃ k:Nat,k<=n/\i= .int .i64 (k:Int)/\Hid (∀ j,j < k->p (l.getD j 0)=false)) (fun _ i=>n - (intOf i).toNat)
 case atStart=>exact ⟨0,Nat.zero_le _,rfl,fun j h=>absurd h (by omega)⟩
 case round =>
  obtain ⟨k,hk,rfl,hall⟩:=hrel
  by_cases hlt:k < n
  ·have hkl:k < l.length:=by have:=HN.out;omega
   obtain ⟨b,o,rfl,hce⟩:=HC.out k hkl
   have hce2:=hce _ (Below.refl _ _)
   clear hce
   obtain ⟨x,hx⟩:∃ x,x=l.getD k 0:=⟨_,rfl⟩
   rw [<- hx] at hce2
   have HXX:=Lib.hid hx
   clear hx
   go_wp2_with fail
   refine (HF.out _ _).mono ?_
   rintro e w' ⟨rfl,rfl⟩
   cases hp:p x with
   | true =>
    have HT:=Lib.hid (HY.out k hkl (by rw [<- HXX.out];exact hp))
    clear hp
    go_wp2
    go_ret
    exact ⟨⟨(k:Int),rfl,by omega,by rw [HT.out];simp⟩,rfl⟩
   | false =>
    have HA:Hid (∀ j,j < k+1->p (l.getD j 0)=false):=by
     intro j hj
     rcases Nat.lt_or_ge j k with h | h
     ·exact hall.out j h
     ·obtain rfl:j=k:=by omega
      rw [<- HXX.out];exact hp
    clear hp hall
    go_wp2
    go_round
    case rel=>exact ⟨k+1,by omega,by go_num,HA⟩
    case measure=>simp [intOf];omega
  ·have HT:Hid (l.any p=false):=HX.out fun j hj=>hall.out j (by have:=HN.out;omega)
   clear hall
   go_wp2
   go_ret
   exact ⟨⟨-1,rfl,by omega,by rw [HT.out];simp⟩,rfl⟩
theorem contains_walk (v : Value) (l : List Int) (w : World) (hr : Runes w v l) (hl : l.length ≤ 140737488351232) (f : FuncId) (p : Int → Bool) (fn : Func) (hfn : Tryz.prog.funcs[f]? = some fn) (hnm : (fn.name == "runtime.NumGoroutine") = false) (co : Code) (hco : fn.body = some co) (hf : ∀ c w, Calls Tryz.prog f #[.int .i32 c] w fun e w' => e = .returned (.bool (p c)) ∧ w = w') :
  Calls Tryz.prog 112 #[v,.func (.func f) #[] #[]] w fun e w'=>e= .returned (.bool (l.any p))/\w=w':=by
 have HI:=Lib.hid (index_walk v l w hr hl f p fn hfn hnm co hco hf)
 clear hr hl hf hfn hnm hco
 generalize l.any p=R at *
 go_enter Tryz.func112,Tryz.ntmps112
 go_wp2_with fail
 refine HI.out.mono ?_
 rintro e w' ⟨⟨k,rfl,hk,hR⟩,rfl⟩
 have HR:=Lib.hid hR
 clear hR
 go_wp2
 go_ret
 exact ⟨by rw [<- HR.out];rfl,rfl⟩
theorem conv_str (s:ByteArray) (w:World) (hs:s.size<=70368744177664):∃ cc w',(convert 9 27 (.string s)).run Tryz.prog w= .ok (.slice (some ⟨w.heap.size,0,none⟩) (runesOf s).length cc) w' /\
  Runes w' (.slice (some ⟨w.heap.size,0,none⟩) (runesOf s).length cc) (runesOf s)/\Below w.heap.size w w'/\(runesOf s).length<=cc:=by
 have h:=run_runes_of_string (P:=Tryz.prog) w 9 27 21 s Tryz.underlying9 Tryz.underlying27 Tryz.underlying21 (by rw [conv_runesOf];have:=runesOf_len s;simp;omega)
 rw [conv_runesOf] at h
 simp only [List.size_toArray,List.length_map] at h
 have hcap:=grownCap_ge w (runesOf s).length 0 21
 refine ⟨_,_,h,?_,?_,by omega⟩
 ·refine .inr ⟨w.heap.size,0,_,_,rfl,rfl,fun i hi=>?_⟩
  rw [Nat.zero_add]
  show (w.drew.alloc _).cell? ⟨w.drew.heap.size,i,none⟩=_
  rw [World.cell?_alloc_at _ _ _ _ rfl]
  rw [Array.getElem?_append_left (by simpa using hi)]
  simp [hi]
 ·exact ((Below.refl _ w).drew).alloc (Nat.le_refl _) _
def upB (s:ByteArray):Bool:=decide (∃ h:0 < s.size,65<=(s[0]'h).toNat/\(s[0]'h).toNat<=90)
theorem upB_nil {s:ByteArray} (h:s.size=0):upB s=false:=decide_eq_false fun ⟨h1,_⟩=>by omega
theorem upB_eq {s:ByteArray} (h:0 < s.size):upB s=(decide (65<=(s[0]'h).toNat)&&decide ((s[0]'h).toNat<=90)):=by
 unfold upB
 rw [Bool.eq_iff_iff]
 simp [h]
theorem upper_walk (s:ByteArray) (w:World):Calls Tryz.prog 115 #[.string s] w fun e w'=>e= .returned (.bool (upB s))/\w=w':=by
 by_cases h:0 < s.size
 ·have HU:=Lib.hid (upB_eq h)
  by_cases h1:65<=(s[0]'h).toNat
  ·by_cases h2:(s[0]'h).toNat<=90
   ·have HT:Hid (upB s=true):=by unfold Hid;rw [HU.out,decide_eq_true h1,decide_eq_true h2];rfl
    clear HU
    go_enter Tryz.func115,Tryz.ntmps115
    go_wp2
    go_ret
    exact ⟨by rw [HT.out];show Ending.returned (Value.bool _)=_;refine congrArg (fun b=>Ending.returned (Value.bool b)) ?_;simp;omega,rfl⟩
   ·have HT:Hid (upB s=false):=by unfold Hid;rw [HU.out,decide_eq_false h2];simp
    clear HU
    go_enter Tryz.func115,Tryz.ntmps115
    go_wp2
    go_ret
    exact ⟨by rw [HT.out];show Ending.returned (Value.bool _)=_;refine congrArg (fun b=>Ending.returned (Value.bool b)) ?_;simp;omega,rfl⟩
  ·have HT:Hid (upB s=false):=by unfold Hid;rw [HU.out,decide_eq_false h1];rfl
   clear HU
   go_enter Tryz.func115,Tryz.ntmps115
   go_wp2
   go_ret
   exact ⟨by rw [HT.out];rfl,rfl⟩
 ·have HU:=Lib.hid (upB_nil (s:=s) (by omega))
  go_enter Tryz.func115,Tryz.ntmps115
  go_wp2
  go_ret
  exact ⟨by rw [HU.out];rfl,rfl⟩
def goodNB (l:List Int):Bool:=decide (1<=l.length)&&decide (l.length<=32)&&letB (l.getD 0 0)&&!l.any oddB
theorem gname_walk (s:ByteArray) (w:World) (hs:s.size<=70368744177664):Calls Tryz.prog 114 #[.string s] w fun e w'=>e= .returned (.bool (goodNB (runesOf s)))/\Below w.heap.size w w':=by
 obtain ⟨cc,w1,hcv,hr,hb1,hcc⟩:=conv_str s w hs
 have hl:=runesOf_len s
 have HO:Hid (∀ n A,Runes w1 (.slice A n cc) (runesOf s)->Calls Tryz.prog 112 #[.slice A n cc,.func (.func 169) #[] #[]] w1 fun e w'=>e= .returned (.bool ((runesOf s).any oddB))/\w1=w') :=
  fun n A h=>contains_walk _ _ w1 h (by omega) 169 oddB _ Tryz.func169 (by kernel_rfl) _ rfl odd_walk
 have HG:Hid (goodNB (runesOf s)=(decide (1<=(runesOf s).length)&&decide ((runesOf s).length<=32)&&letB ((runesOf s).getD 0 0)&&!(runesOf s).any oddB)):=rfl
 have HB1:=Lib.hid hb1
 generalize runesOf s=l at *
 have HR:=Lib.hid hr
 obtain ⟨n,hn⟩:∃ n,n=l.length:=⟨_,rfl⟩
 rw [<- hn] at hcv hcc
 have HR':Hid (Runes w1 (.slice (some ⟨w.heap.size,0,none⟩) n cc) l):=by unfold Hid;rw [hn];exact hr
 have hn2:n<=70368744177664:=by omega
 have HN:=Lib.hid hn
 have HC:=Lib.hid hr.opn
 clear hr hb1 hn hcc hl hs HR
 by_cases h0:n=0
 ·have HF:Hid (goodNB l=false):=by unfold Hid;rw [HG.out];simp;intro h;have:=HN.out;omega
  subst h0
  go_enter Tryz.func114,Tryz.ntmps114
  go_wp2
  go_ret
  exact ⟨by rw [HF.out];rfl,HB1.out⟩
 by_cases h32:32 < n
 ·have HF:Hid (goodNB l=false):=by unfold Hid;rw [HG.out];simp;intro h h2;have:=HN.out;omega
  have hnz:((n:Int)==0)=false:=by simp;omega
  go_enter Tryz.func114,Tryz.ntmps114
  go_wp2
  go_ret
  exact ⟨by rw [HF.out];rfl,HB1.out⟩
 have hpos:0 < n:=by omega
 have hnz:((n:Int)==0)=false:=by simp;omega
 obtain ⟨A,c2,n2,e,hn3,hcell⟩:=HC.out
 obtain ⟨b,o,hA,hce⟩:=hcell 0 (by have:=HN.out;omega)
 obtain ⟨rfl,rfl⟩:w.heap.size=b/\0=o:=by
  have h1:some (⟨w.heap.size,0,none⟩:Addr)=A:=by injection e
  rw [hA] at h1;simpa using h1
 have hc0:=hce _ (Below.refl _ _)
 clear hce hA hcell e hn3
 obtain ⟨x,hx⟩:∃ x,x=l.getD 0 0:=⟨_,rfl⟩
 rw [<- hx] at hc0
 have HX:=Lib.hid hx
 clear hx
 cases hb:letB x with
 | false =>
  have HF:Hid (goodNB l=false):=by unfold Hid;rw [HG.out,<- HX.out,hb];simp
  have HLW:Hid (∀ w,Calls Tryz.prog 168 #[.int .i32 x] w fun e w'=>e= .returned (.bool false)/\w=w'):=by intro w;have:=letter_walk x w;rwa [hb] at this
  clear hb
  go_enter Tryz.func114,Tryz.ntmps114
  go_wp2_with fail
  refine (HLW.out _).mono ?_
  rintro e w' ⟨rfl,rfl⟩
  go_wp2
  go_ret
  exact ⟨by rw [HF.out];rfl,HB1.out⟩
 | true =>
  have HF:Hid (goodNB l = !l.any oddB):=by
   unfold Hid;rw [HG.out,<- HX.out,hb,decide_eq_true (by have:=HN.out;omega),decide_eq_true (by have:=HN.out;omega)];rfl
  have HLW:Hid (∀ w,Calls Tryz.prog 168 #[.int .i32 x] w fun e w'=>e= .returned (.bool true)/\w=w'):=by intro w;have:=letter_walk x w;rwa [hb] at this
  clear hb
  go_enter Tryz.func114,Tryz.ntmps114
  go_wp2_with fail
  refine (HLW.out _).mono ?_
  rintro e w' ⟨rfl,rfl⟩
  go_wp2_with fail
  refine (HO.out _ _ HR'.out).mono ?_
  rintro e w' ⟨rfl,rfl⟩
  go_wp2
  go_ret
  exact ⟨by rw [HF.out];rfl,HB1.out⟩
theorem getD_of {l:List Int}{i:Nat} (h:i < l.length):l.getD i 0=l[i]:=by simp [List.getD,h]
theorem rIn_walk (c:Int) (v:Value) (l:List Int) (w:World) (hr:Runes w v l) (hl:l.length<=140737488351232) :
  Calls Tryz.prog 55 #[.int .i32 c,v] w fun e w'=>e= .returned (.bool (decide (c∈l)))/\w=w':=by
 obtain ⟨A,cc,n,rfl,hn,hcell⟩:=hr.opn
 have HC:=Lib.hid hcell
 have HN:=Lib.hid hn
 have hn2:n<=140737488351232:=by omega
 have HY:Hid (∀ k,k < l.length->l.getD k 0=c->decide (c∈l)=true):=fun k h h2=>decide_eq_true (by rw [<- h2,getD_of h];exact List.getElem_mem h)
 have HX:Hid ((∀ k,k < l.length->¬ l.getD k 0=c)->decide (c∈l)=false):=fun h=>decide_eq_false fun hm=>by
  obtain ⟨k,hk,e⟩:=List.getElem_of_mem hm
  exact h k hk (by rw [getD_of hk];exact e)
 clear hcell hn hr hl
 go_enter Tryz.func55,Tryz.ntmps55
 go_wp2
 go_loop [5] (fun i=>∃ k:Nat,k<=n/\i= .int .i64 (k:Int)/\Hid (∀ j,j < k->¬ l.getD j 0=c)) (fun i=>n - (intOf i).toNat)
 case atStart=>exact ⟨0,Nat.zero_le _,rfl,fun j h=>absurd h (by omega)⟩
 case round =>
  obtain ⟨k,hk,rfl,hall⟩:=hrel
  by_cases hlt:k < n
  ·have hkl:k < l.length:=by have:=HN.out;omega
   obtain ⟨b,o,rfl,hce⟩:=HC.out k hkl
   have hce2:=hce _ (Below.refl _ _)
   clear hce
   obtain ⟨x,hx⟩:∃ x,x=l.getD k 0:=⟨_,rfl⟩
   rw [<- hx] at hce2
   have HXX:=Lib.hid hx
   clear hx
   by_cases hp:x=c
   ·have HT:=Lib.hid (HY.out k hkl (by rw [<- HXX.out];exact hp))
    subst hp
    go_wp2
    go_ret
    exact ⟨by rw [HT.out];rfl,rfl⟩
   ·have HA:Hid (∀ j,j < k+1->¬ l.getD j 0=c):=by
     intro j hj
     rcases Nat.lt_or_ge j k with h | h
     ·exact hall.out j h
     ·obtain rfl:j=k:=by omega
      rw [<- HXX.out];exact hp
    have hp2:(x==c)=false:=by simpa using hp
    clear hp hall
    go_wp2
    go_round
    case rel=>exact ⟨k+1,by omega,by go_num,HA⟩
    case measure=>simp [intOf];omega
  ·have HT:Hid (decide (c∈l)=false):=HX.out fun j hj=>hall.out j (by have:=HN.out;omega)
   clear hall
   go_wp2
   go_ret
   exact ⟨by rw [HT.out];rfl,rfl⟩
def verbsL:List Int:=[43,45,215,247,8968,8970,124,42,126,61,8800,60,8804,8805,62,8743,8744,9074,9073,9076,44,9066,9021,8854,9033,8593,8595,9075,9080,8714,8746,8745,9035,9042,8801,8802,8834,8835,8868,8869,8867,8866]
theorem runes_lit (w:World) (l:List Int):Runes (w.alloc (.cells (l.map (Value.int .i32)).toArray 21)) (.slice (some ⟨w.heap.size,0,none⟩) l.length l.length) l:=by
 refine .inr ⟨w.heap.size,0,_,_,rfl,rfl,fun i hi=>?_⟩
 rw [Nat.zero_add,World.cell?_alloc_at _ _ _ _ rfl]
 simp [hi]
theorem verbs_walk (w:World):Calls Tryz.prog 163 #[] w fun e w'=>∃ v,e= .returned v/\Runes w' v verbsL/\Below w.heap.size w w':=by
 have HR:=Lib.hid (runes_lit w verbsL)
 go_enter Tryz.func163,Tryz.ntmps163
 go_wp2
 go_ret
 exact ⟨_,rfl,HR.out,(Below.refl _ w).alloc (Nat.le_refl _) _⟩
end Go.Proofs.YtbakjaliponbbaaGreatDoor
