/- Words for memory: rows of runes that a call owns; slices that read as lists; one more rune appended. Plain laws: the runes of a string, one by one. No program .. Conditions: as each theorem says. -/
import Derived.Test.YtbakjaliponbbaaGreatDoorProg
import Derived.WalkKit
import Derived.WalkLawsBesides
import Derived.Maps.AppendAt
import Derived.Lib.Hide
import Derived.Outline
import Derived.Laws.RangeAny
import Derived.Laws.IdiomStrings
import Derived.Lib.RuneCount
import Derived.BigQuiet
set_option maxRecDepth 100000
namespace Go.Proofs.YtbakjaliponbbaaGreatDoor
open Go Go.RowKit Go.Proofs
def Runes (w:World) (v:Value) (l:List Int):Prop :=
 (∃ a c,v= .slice a 0 c/\l=[]) \/
 (∃ b o n c,v= .slice (some ⟨b,o,none⟩) n c/\n=l.length/\∀ i (h:i < l.length),w.cell? ⟨b,o+i,none⟩=some (.int .i32 l[i]))
theorem cell_lt {w:World}{a:Addr}{v:Value} (h:w.cell? a=some v):a.block < w.heap.size:=by
 unfold World.cell? at h
 rcases Nat.lt_or_ge a.block w.heap.size with hlt | hge
 ·exact hlt
 ·rw [Array.getElem?_eq_none hge] at h;simp at h
theorem Runes.below {w w':World}{v:Value}{l:List Int} (h:Runes w v l) (hb:Below w.heap.size w w'):Runes w' v l:=by
 rcases h with h | ⟨b,o,n,c,rfl,hn,hc⟩
 ·exact .inl h
 ·exact .inr ⟨b,o,n,c,rfl,hn,fun i hi=>by rw [hb.cell (cell_lt (hc i hi))];exact hc i hi⟩
def OwnR (w:World) (B:Nat) (v:Value) (l:List Int):Prop:=w.ownsRow B 21 1 v l.length (l.map (Value.int .i32))
theorem OwnR.nil (w:World) (B:Nat):OwnR w B (.slice none 0 0) []:=World.ownsRow_nil w B _ _
theorem OwnR.runes {w:World}{B:Nat}{v:Value}{l:List Int} (h:OwnR w B v l):Runes w v l:=by
 have h':=h
 rcases h.2 with ⟨rfl,hn⟩ | ⟨g,cap,cur,rfl,hbg,hg,hnc,hcm,hcs,htake⟩
 ·exact .inl ⟨none,0,rfl,List.eq_nil_of_length_eq_zero hn⟩
 ·refine .inr ⟨g,0,l.length,cap,rfl,rfl,fun i hi=>?_⟩
  have:=World.ownsRow.cellAt h' i (by omega)
  rw [Nat.zero_add,this]
  simp [hi]
theorem OwnR.len {w:World}{B:Nat}{v:Value}{l:List Int} (h:OwnR w B v l):∃ a c,v= .slice a l.length c:=by
 rcases h.2 with ⟨rfl,hn⟩ | ⟨g,cap,cur,rfl,_⟩
 ·exact ⟨none,0,by rw [hn]⟩
 ·exact ⟨_,_,rfl⟩
theorem OwnR.below {w w':World}{B:Nat}{v:Value}{l:List Int} (h:OwnR w B v l) (hb:Below w.heap.size w w'):OwnR w' B v l:=by
 refine ⟨h.1,?_⟩
 rcases h.2 with h2 | ⟨g,cap,cur,hv,hbg,hg,r⟩
 ·exact .inl h2
 ·refine .inr ⟨g,cap,cur,hv,hbg,?_,r⟩
  have hlt:g < w.heap.size:=by
   rcases Nat.lt_or_ge g w.heap.size with hlt | hge
   ·exact hlt
   ·rw [Array.getElem?_eq_none hge] at hg;cases hg
  rw [hb.block g hlt];exact hg
theorem OwnR.lower {w:World}{B B':Nat}{v:Value}{l:List Int} (h:OwnR w B v l) (hB:B'<=B):OwnR w B' v l:=by
 refine ⟨h.1,?_⟩
 rcases h.2 with h2 | ⟨g,cap,cur,hv,hbg,r⟩
 ·exact .inl h2
 ·exact .inr ⟨g,cap,cur,hv,by omega,r⟩
theorem OwnR.alloc {w:World}{B:Nat}{v:Value}{l:List Int} (h:OwnR w B v l) (o:Obj):OwnR (w.alloc o) B v l:=World.ownsRow.alloc h o
def Apart (v d:Value):Prop:=v.ownBlock=none\/d.ownBlock=none\/v.ownBlock≠d.ownBlock
theorem Apart.symm {v d:Value} (h:Apart v d):Apart d v:=by
 rcases h with h | h | h
 ·exact .inr (.inl h)
 ·exact .inl h
 ·exact .inr (.inr fun e=>h e.symm)
theorem info_i32:(Tryz.prog.info? 21).map (fun i=>(i.zero,i.size,i.bytes))=some (some (.int .i32 0),1,4):=by kernel_rfl
theorem OwnR.form {w:World}{B:Nat}{v:Value}{l:List Int} (h:OwnR w B v l) (hl:l≠[]) :
  ∃ g c,v= .slice (some ⟨g,0,none⟩) l.length c/\∀ w' B',OwnR w' B' v l->∀ i (hi:i < l.length),w'.cell? ⟨g,i,none⟩=some (.int .i32 l[i]):=by
 rcases h.2 with ⟨rfl,hn⟩ | ⟨g,cap,cur,rfl,hbg,hg,hnc,hcm,hcs,htake⟩
 ·exact absurd (List.eq_nil_of_length_eq_zero hn) hl
 ·refine ⟨g,cap,rfl,fun w' B' h' i hi=>?_⟩
  have:=World.ownsRow.cellAt h' i (by omega)
  rw [this]
  simp [hi]
end Go.Proofs.YtbakjaliponbbaaGreatDoor
namespace Go.Proofs.YtbakjaliponbbaaGreatDoor
open Go
def rl (s:ByteArray):Nat->Nat->List Int
 | 0,_=>[]
 | f+1,i=>if i < s.size then ((Utf8.decode s i).1:Int)::rl s f (i+(Utf8.decode s i).2) else []
def runesOf (s:ByteArray):List Int:=rl s s.size 0
theorem rl_end (s:ByteArray){f i:Nat} (h:s.size<=i):rl s f i=[]:=by
 cases f with
 | zero=>rfl
 | succ f=>rw [rl,if_neg (by omega)]
theorem rl_len (s:ByteArray):∀ f i,(rl s f i).length<=f
 | 0,_=>Nat.le_refl _
 | f+1,i=>by
  rw [rl];split
  ·have:=rl_len s f (i+(Utf8.decode s i).2);simp;omega
  ·simp
theorem runesOf_len (s:ByteArray):(runesOf s).length<=s.size:=rl_len s _ _
theorem rl_fuel (s:ByteArray):∀ f g i,s.size - i<=f->s.size - i<=g->rl s f i=rl s g i
 | 0,g,i,h,_=>by rw [rl_end s (by omega),rl_end s (by omega)]
 | f+1,0,i,_,h=>by rw [rl_end s (by omega),rl_end s (by omega)]
 | f+1,g+1,i,h1,h2=>by
  rw [rl,rl]
  split
  ·rename_i hi
   have hw:=Lib.decode_width_pos s i hi
   rw [rl_fuel s f g _ (by omega) (by omega)]
  ·rfl
theorem rl_step (s:ByteArray){i:Nat} (h:i < s.size):rl s (s.size - i) i=((Utf8.decode s i).1:Int)::rl s (s.size - (i+(Utf8.decode s i).2)) (i+(Utf8.decode s i).2):=by
 have hw:=Lib.decode_width_pos s i h
 obtain ⟨f,hf⟩:∃ f,s.size - i=f+1:=⟨s.size - i - 1,by omega⟩
 rw [hf,rl,if_pos h,rl_fuel s f (s.size - (i+(Utf8.decode s i).2)) _ (by omega) (by omega)]
theorem conv_rl (s:ByteArray):∀ (b i:Nat) (acc:Array Value),Conv.runesFrom s b i acc=acc++((rl s b i).map (Value.int .i32)).toArray
 | 0,i,acc=>by simp [Conv.runesFrom,rl]
 | b+1,i,acc=>by
  unfold Conv.runesFrom
  rw [rl]
  split
  ·show Conv.runesFrom s b (i+(Utf8.decode s i).2) (acc.push (.int .i32 (Int.ofNat (Utf8.decode s i).1)))=_
   rw [conv_rl s b];simp
  ·simp
theorem conv_runesOf (s:ByteArray):Conv.runesFrom s s.size 0 #[]=((runesOf s).map (Value.int .i32)).toArray:=by rw [conv_rl];simp [runesOf]
end Go.Proofs.YtbakjaliponbbaaGreatDoor
namespace Go.Proofs.YtbakjaliponbbaaGreatDoor
open Go Go.RowKit Go.Proofs
def letB (c:Int):Bool:=decide (97<=c/\c<=122\/65<=c/\c<=90\/c=95\/c=8710)
def digB (c:Int):Bool:=decide (48<=c/\c<=57)
theorem letB_yes {c:Int} (h:97<=c/\c<=122\/65<=c/\c<=90\/c=95\/c=8710):letB c=true:=decide_eq_true h
theorem letB_no {c:Int} (h:¬ (97<=c/\c<=122\/65<=c/\c<=90\/c=95\/c=8710)):letB c=false:=decide_eq_false h
theorem digB_yes {c:Int} (h:48<=c/\c<=57):digB c=true:=decide_eq_true h
theorem digB_no {c:Int} (h:¬ (48<=c/\c<=57)):digB c=false:=decide_eq_false h
theorem letB_parts (c:Int):(c < 65/\c < 95/\letB c=false)\/(65<=c/\c<=90/\letB c=true)\/(90 < c/\c < 95/\letB c=false)\/(c=95/\letB c=true)\/(c=96/\letB c=false)\/(97<=c/\c<=122/\letB c=true)\/(122 < c/\c < 8710/\letB c=false)\/(c=8710/\letB c=true)\/(8710 < c/\letB c=false):=by
 rcases (show c < 65\/(65<=c/\c<=90)\/(90 < c/\c < 95)\/c=95\/c=96\/(97<=c/\c<=122)\/(122 < c/\c < 8710)\/c=8710\/8710 < c by omega) with h | h | h | h | h | h | h | h | h
 ·exact .inl ⟨h,by omega,letB_no (by omega)⟩
 ·exact .inr (.inl ⟨h.1,h.2,letB_yes (by omega)⟩)
 ·exact .inr (.inr (.inl ⟨h.1,h.2,letB_no (by omega)⟩))
 ·exact .inr (.inr (.inr (.inl ⟨h,letB_yes (by omega)⟩)))
 ·exact .inr (.inr (.inr (.inr (.inl ⟨h,letB_no (by omega)⟩))))
 ·exact .inr (.inr (.inr (.inr (.inr (.inl ⟨h.1,h.2,letB_yes (by omega)⟩)))))
 ·exact .inr (.inr (.inr (.inr (.inr (.inr (.inl ⟨h.1,h.2,letB_no (by omega)⟩))))))
 ·exact .inr (.inr (.inr (.inr (.inr (.inr (.inr (.inl ⟨h,letB_yes (by omega)⟩)))))))
 ·exact .inr (.inr (.inr (.inr (.inr (.inr (.inr (.inr ⟨h,letB_no (by omega)⟩)))))))
theorem digB_parts (c:Int):(c < 48/\digB c=false)\/(48<=c/\c<=57/\digB c=true)\/(57 < c/\digB c=false):=by
 rcases (show c < 48\/(48<=c/\c<=57)\/57 < c by omega) with h | h | h
 ·exact .inl ⟨h,digB_no (by omega)⟩
 ·exact .inr (.inl ⟨h.1,h.2,digB_yes (by omega)⟩)
 ·exact .inr (.inr ⟨h,digB_no (by omega)⟩)
theorem letter_walk (c:Int) (w:World):Calls Tryz.prog 168 #[.int .i32 c] w fun e w'=>e= .returned (.bool (letB c))/\w=w':=by
 rcases letB_parts c with ⟨h,h2,hT⟩ | ⟨h,h2,hT⟩ | ⟨h,h2,hT⟩ | ⟨h,hT⟩ | ⟨h,hT⟩ | ⟨h,h2,hT⟩ | ⟨h,h2,hT⟩ | ⟨h,hT⟩ | ⟨h,hT⟩
 all_goals
  have HT:=Lib.hid hT
  clear hT
  generalize letB c=R at *
  try subst h
  go_enter Tryz.func168,Tryz.ntmps168
  go_wp2
  go_ret
  exact ⟨by rw [HT.out];first | rfl | (show Ending.returned (Value.bool _)=_;refine congrArg (fun b=>Ending.returned (Value.bool b)) ?_;simp;omega),rfl⟩
theorem rLetter_walk (c:Int) (w:World):Calls Tryz.prog 161 #[.int .i32 c] w fun e w'=>e= .returned (.bool (letB c))/\w=w':=by
 rcases letB_parts c with ⟨h,h2,hT⟩ | ⟨h,h2,hT⟩ | ⟨h,h2,hT⟩ | ⟨h,hT⟩ | ⟨h,hT⟩ | ⟨h,h2,hT⟩ | ⟨h,h2,hT⟩ | ⟨h,hT⟩ | ⟨h,hT⟩
 all_goals
  have HT:=Lib.hid hT
  clear hT
  generalize letB c=R at *
  try subst h
  go_enter Tryz.func161,Tryz.ntmps161
  go_wp2
  go_ret
  exact ⟨by rw [HT.out];first | rfl | (show Ending.returned (Value.bool _)=_;refine congrArg (fun b=>Ending.returned (Value.bool b)) ?_;simp;omega),rfl⟩
theorem rDigit_walk (c:Int) (w:World):Calls Tryz.prog 162 #[.int .i32 c] w fun e w'=>e= .returned (.bool (digB c))/\w=w':=by
 rcases digB_parts c with ⟨h,hT⟩ | ⟨h,h2,hT⟩ | ⟨h,hT⟩
 all_goals
  have HT:=Lib.hid hT
  clear hT
  generalize digB c=R at *
  try subst h
  go_enter Tryz.func162,Tryz.ntmps162
  go_wp2
  go_ret
  exact ⟨by rw [HT.out];first | rfl | (show Ending.returned (Value.bool _)=_;refine congrArg (fun b=>Ending.returned (Value.bool b)) ?_;simp;omega),rfl⟩
def oddB (c:Int):Bool := !letB c&&!digB c
theorem Runes.opn {w:World}{v:Value}{l:List Int} (h:Runes w v l):∃ A cc n,v= .slice A n cc/\n=l.length /\
  ∀ i,i < l.length->∃ b o,A=some ⟨b,o,none⟩/\∀ w1,Below w.heap.size w w1->w1.cell? ⟨b,o+i,none⟩=some (.int .i32 (l.getD i 0)):=by
 rcases h with ⟨a,c,rfl,rfl⟩ | ⟨b,o,n,c,rfl,hn,hc⟩
 ·exact ⟨a,c,0,rfl,rfl,fun i hi=>by simp at hi⟩
 ·refine ⟨_,c,n,rfl,hn,fun i hi=>⟨b,o,rfl,fun w1 hb=>?_⟩⟩
  have:=hc i hi
  rw [hb.cell (cell_lt this),this]
  simp [List.getD,hi]
theorem any_at {l:List Int}{p:Int->Bool}{k:Nat} (hk:k < l.length) (h:p (l.getD k 0)=true):l.any p=true:=by
 rw [List.any_eq_true];exact ⟨l[k],List.getElem_mem hk,by simpa [List.getD,hk] using h⟩
theorem any_no {l:List Int}{p:Int->Bool} (h:∀ k,k < l.length->p (l.getD k 0)=false):l.any p=false:=by
 rw [List.any_eq_false];intro x hx;obtain ⟨k,hk,rfl⟩:=List.getElem_of_mem hx;simpa [List.getD,hk] using h k hk
theorem conv_str (s:ByteArray) (w:World) (hs:s.size<=70368744177664):∃ cc w',(convert 9 27 (.string s)).run Tryz.prog w= .ok (.slice (some ⟨w.heap.size,0,none⟩) (runesOf s).length cc) w' /\
  Runes w' (.slice (some ⟨w.heap.size,0,none⟩) (runesOf s).length cc) (runesOf s)/\Below w.heap.size w w'/\(runesOf s).length<=cc:=by
 have h:=run_runes_of_string (P:=Tryz.prog) w 9 27 21 s Tryz.underlying9 Tryz.underlying27 Tryz.underlying21 (by rw [conv_runesOf];have:=runesOf_len s;simp;omega)
 rw [conv_runesOf] at h
 simp only [List.size_toArray,List.length_map] at h
 have hcap:=grownCap_ge w (runesOf s).length 0 21
 refine ⟨_,_,h,?_,?_,by omega⟩
 ·refine .inr ⟨w.heap.size,0,_,_,rfl,rfl,fun i hi=>?_⟩
  rw [Nat.zero_add]
  show (w.drew.alloc _).cell? ⟨w.drew.heap.size,i,none⟩=_
  rw [World.cell?_alloc_at _ _ _ _ rfl]
  rw [Array.getElem?_append_left (by simpa using hi)]
  simp [hi]
 ·exact ((Below.refl _ w).drew).alloc (Nat.le_refl _) _
def upB (s:ByteArray):Bool:=decide (∃ h:0 < s.size,65<=(s[0]'h).toNat/\(s[0]'h).toNat<=90)
theorem upB_nil {s:ByteArray} (h:s.size=0):upB s=false:=decide_eq_false fun ⟨h1,_⟩=>by omega
theorem upB_eq {s:ByteArray} (h:0 < s.size):upB s=(decide (65<=(s[0]'h).toNat)&&decide ((s[0]'h).toNat<=90)):=by
 unfold upB
 rw [Bool.eq_iff_iff]
 simp [h]
def goodNB (l:List Int):Bool:=decide (1<=l.length)&&decide (l.length<=32)&&letB (l.getD 0 0)&&!l.any oddB
theorem getD_of {l:List Int}{i:Nat} (h:i < l.length):l.getD i 0=l[i]:=by simp [List.getD,h]
theorem rIn_walk (c:Int) (v:Value) (l:List Int) (w:World) (hr:Runes w v l) (hl:l.length<=140737488351232) :
  Calls Tryz.prog 55 #[.int .i32 c,v] w fun e w'=>e= .returned (.bool (decide (c∈l)))/\w=w':=by
 obtain ⟨A,cc,n,rfl,hn,hcell⟩:=hr.opn
 have HC:=Lib.hid hcell
 have HN:=Lib.hid hn
 have hn2:n<=140737488351232:=by omega
 have HY:Hid (∀ k,k < l.length->l.getD k 0=c->decide (c∈l)=true):=fun k h h2=>decide_eq_true (by rw [<- h2,getD_of h];exact List.getElem_mem h)
 have HX:Hid ((∀ k,k < l.length->¬ l.getD k 0=c)->decide (c∈l)=false):=fun h=>decide_eq_false fun hm=>by
  obtain ⟨k,hk,e⟩:=List.getElem_of_mem hm
  exact h k hk (by rw [getD_of hk];exact e)
 clear hcell hn hr hl
 go_enter Tryz.func55,Tryz.ntmps55
 go_wp2
 go_loop [5] (fun i=>∃ k:Nat,k<=n/\i= .int .i64 (k:Int)/\Hid (∀ j,j < k->¬ l.getD j 0=c)) (fun i=>n - (intOf i).toNat)
 case atStart=>exact ⟨0,Nat.zero_le _,rfl,fun j h=>absurd h (by omega)⟩
 case round =>
  obtain ⟨k,hk,rfl,hall⟩:=hrel
  by_cases hlt:k < n
  ·have hkl:k < l.length:=by have:=HN.out;omega
   obtain ⟨b,o,rfl,hce⟩:=HC.out k hkl
   have hce2:=hce _ (Below.refl _ _)
   clear hce
   obtain ⟨x,hx⟩:∃ x,x=l.getD k 0:=⟨_,rfl⟩
   rw [<- hx] at hce2
   have HXX:=Lib.hid hx
   clear hx
   by_cases hp:x=c
   ·have HT:=Lib.hid (HY.out k hkl (by rw [<- HXX.out];exact hp))
    subst hp
    go_wp2
    go_ret
    exact ⟨by rw [HT.out];rfl,rfl⟩
   ·have HA:Hid (∀ j,j < k+1->¬ l.getD j 0=c):=by
     intro j hj
     rcases Nat.lt_or_ge j k with h | h
     ·exact hall.out j h
     ·obtain rfl:j=k:=by omega
      rw [<- HXX.out];exact hp
    have hp2:(x==c)=false:=by simpa using hp
    clear hp hall
    go_wp2
    go_round
    case rel=>exact ⟨k+1,by omega,by go_num,HA⟩
    case measure=>simp [intOf];omega
  ·have HT:Hid (decide (c∈l)=false):=HX.out fun j hj=>hall.out j (by have:=HN.out;omega)
   clear hall
   go_wp2
   go_ret
   exact ⟨by rw [HT.out];rfl,rfl⟩
def verbsL:List Int:=[43,45,215,247,8968,8970,124,42,126,61,8800,60,8804,8805,62,8743,8744,9074,9073,9076,44,9066,9021,8854,9033,8593,8595,9075,9080,8714,8746,8745,9035,9042,8801,8802,8834,8835,8868,8869,8867,8866]
theorem runes_lit (w:World) (l:List Int):Runes (w.alloc (.cells (l.map (Value.int .i32)).toArray 21)) (.slice (some ⟨w.heap.size,0,none⟩) l.length l.length) l:=by
 refine .inr ⟨w.heap.size,0,_,_,rfl,rfl,fun i hi=>?_⟩
 rw [Nat.zero_add,World.cell?_alloc_at _ _ _ _ rfl]
 simp [hi]
theorem verbs_walk (w:World):Calls Tryz.prog 163 #[] w fun e w'=>∃ v,e= .returned v/\Runes w' v verbsL/\Below w.heap.size w w':=by
 have HR:=Lib.hid (runes_lit w verbsL)
 go_enter Tryz.func163,Tryz.ntmps163
 go_wp2
 go_ret
 exact ⟨_,rfl,HR.out,(Below.refl _ w).alloc (Nat.le_refl _) _⟩
end Go.Proofs.YtbakjaliponbbaaGreatDoor
