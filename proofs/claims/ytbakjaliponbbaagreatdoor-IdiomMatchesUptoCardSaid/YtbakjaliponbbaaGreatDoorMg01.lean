/- The functions of signs of package idiom and of its reference: Code, has, told, relation, gathers; Code, one, chain. Printed by gen_trma.py. No conditions but .. Conditions: as each theorem says. -/
import Derived.Test.YtbakjaliponbbaaGreatDoorMg00
import Derived.Deep.DeepCutAuto
set_option maxRecDepth 100000
set_option maxHeartbeats 2000000
namespace Go.Proofs.YtbakjaliponbbaaGreatDoor
open Go Go.RowKit Go.Proofs
def codeS:List Int->Int->Int->Int
 | [],_,_=>0
 | x::xs,n,c=>if x=c/\c≠0 then n+1 else codeS xs (n+1) c
def codeRS:List Int->Nat->Int->Int
 | [],_,_=>0
 | x::xs,i,c=>if x=c then (if i < 8 then (i:Int)+1 else if i < 14 then (i:Int)+3 else (i:Int)+7) else codeRS xs (i+1) c
def codeStr:ByteArray:=⟨#[43,45,195,151,195,183,226,140,136,226,140,138,124,42,0,0,60,226,137,164,61,226,137,165,62,226,137,160,0,0,0,0,226,136,167,226,136,168,226,141,178,226,141,177]⟩
def codeL:List Int:=[43,45,215,247,8968,8970,124,42,0,0,60,8804,61,8805,62,8800,0,0,0,0,8743,8744,9074,9073]
def codeRL:List Int:=[43,45,215,247,8968,8970,124,42,60,8804,61,8805,62,8800,8743,8744,9074,9073]
def codeZ (c:Int):Int:=codeS codeL 0 c
theorem codeStr_runes:runesOf codeStr=codeL:=by decide+kernel
theorem codeZ_R (c:Int):codeRS codeRL 0 c=codeZ c:=by
 by_cases h:c∈codeRL
 ·unfold codeRL at h
  simp only [List.mem_cons,List.not_mem_nil,or_false] at h
  rcases h with rfl | rfl | rfl | rfl | rfl | rfl | rfl | rfl | rfl | rfl | rfl | rfl | rfl | rfl | rfl | rfl | rfl | rfl <;> rfl
 ·unfold codeRL at h
  simp only [List.mem_cons,List.not_mem_nil,or_false,not_or] at h
  obtain ⟨h0,h1,h2,h3,h4,h5,h6,h7,h8,h9,h10,h11,h12,h13,h14,h15,h16,h17⟩:=h
  have hz:∀ n:Int,¬ (n=c/\c≠0)↔(n≠c\/c=0):=fun n=>by omega
  unfold codeZ codeRL codeL
  simp only [codeRS,codeS]
  rw [if_neg (fun e=>h0 e.symm)]
  rw [if_neg (fun e=>h1 e.symm)]
  rw [if_neg (fun e=>h2 e.symm)]
  rw [if_neg (fun e=>h3 e.symm)]
  rw [if_neg (fun e=>h4 e.symm)]
  rw [if_neg (fun e=>h5 e.symm)]
  rw [if_neg (fun e=>h6 e.symm)]
  rw [if_neg (fun e=>h7 e.symm)]
  rw [if_neg (fun e=>h8 e.symm)]
  rw [if_neg (fun e=>h9 e.symm)]
  rw [if_neg (fun e=>h10 e.symm)]
  rw [if_neg (fun e=>h11 e.symm)]
  rw [if_neg (fun e=>h12 e.symm)]
  rw [if_neg (fun e=>h13 e.symm)]
  rw [if_neg (fun e=>h14 e.symm)]
  rw [if_neg (fun e=>h15 e.symm)]
  rw [if_neg (fun e=>h16 e.symm)]
  rw [if_neg (fun e=>h17 e.symm)]
  simp only [Ne,eq_comm (b:=c),h0,h1,h2,h3,h4,h5,h6,h7,h8,h9,h10,h11,h12,h13,h14,h15,h16,h17,false_and,if_false]
  by_cases h0:c=0
  ·subst h0;simp
  ·simp [h0]
def hasS:List Int->Int->Int->Int->Bool
 | [],_,_,_=>false
 | x::xs,fi,f,g=>if fi=0 then hasS xs x f g else if fi=f/\x=g then true else hasS xs 0 f g
def pairsL:List Int:=[8835,9021,8835,9076,8835,9035,8835,9042,8835,9080,8802,8746,8802,9080,8802,9076,9076,9076,8802,44,9021,9075,8835,44]
def chainsStr:ByteArray:=⟨([226,138,131,226,140,189,226,138,131,226,141,180,226,138,131,226,141,139,226,138,131,226,141,146,226,138,131,226,141,184,226,137,162,226].append [136,170,226,137,162,226,141,184,226,137,162,226,141,180,226,141,180,226,141,180,226,137,162,44,226,140,189,226,141,179,226,138,131,44]).toArray⟩
theorem chainsStr_runes:runesOf chainsStr=pairsL:=by decide+kernel
def chnB (f g:Int):Bool:=if f=8835 then decide (g∈[9021,9076,9035,9042,9080,44]) else if f=8802 then decide (g∈[8746,9080,9076,44]) else (decide (f=9076)&&decide (g=9076)||decide (f=9021)&&decide (g=9075))
theorem chnB_else {f g:Int} (h1:f≠8835) (h2:f≠8802):chnB f g=(decide (f=9076)&&decide (g=9076)||decide (f=9021)&&decide (g=9075)):=by
 unfold chnB
 rw [if_neg h1,if_neg h2]
theorem chnB_has (f g:Int):hasS pairsL 0 f g=chnB f g:=by
 unfold pairsL
 by_cases h1:f=8835
 ·subst h1
  rw [show chnB 8835 g=decide (g∈[9021,9076,9035,9042,9080,44]) from rfl,Bool.eq_iff_iff]
  simp [hasS]
  omega
 ·by_cases h2:f=8802
  ·subst h2
   rw [show chnB 8802 g=decide (g∈[8746,9080,9076,44]) from rfl,Bool.eq_iff_iff]
   simp [hasS]
   omega
  ·have n1:¬ (8835:Int)=f:=fun e=>h1 e.symm
   have n2:¬ (8802:Int)=f:=fun e=>h2 e.symm
   rw [chnB_else h1 h2]
   by_cases h3:f=9076
   ·subst h3
    by_cases h4:g=9076
    ·subst h4;decide
    ·have n4:¬ (9076:Int)=g:=fun e=>h4 e.symm
     simp [hasS,h4,n4]
   ·have n3:¬ (9076:Int)=f:=fun e=>h3 e.symm
    by_cases h5:f=9021
    ·subst h5
     by_cases h4:g=9075
     ·subst h4;decide
     ·have n4:¬ (9075:Int)=g:=fun e=>h4 e.symm
      simp [hasS,h4,n4]
    ·have n5:¬ (9021:Int)=f:=fun e=>h5 e.symm
     simp [hasS,n1,n2,n3,n5,h3,h5]
def relBz (c:Int):Bool:=(decide (11<=codeZ c)&&decide (codeZ c<=16))||decide (c=8714)
def gatB (c:Int):Bool:=decide (codeZ c=1)||decide (codeZ c=21)||decide (codeZ c=22)||decide (codeZ c=5)||decide (codeZ c=6)
def relL:List Int:=[60,8804,61,8805,62,8800,8714]
def gatL:List Int:=[43,8743,8744,8968,8970]
theorem codeZ_cases (c:Int):c∈codeRL\/codeZ c=0:=by
 by_cases h:c∈codeRL
 ·exact .inl h
 ·refine .inr ?_
  rw [<- codeZ_R]
  have k:∀ (l:List Int) (i:Nat),c ∉ l->codeRS l i c=0:=by
   intro l
   induction l with
   | nil=>intro i _;rfl
   | cons x xs ih =>
    intro i hn
    rw [codeRS,if_neg (fun e=>hn (by rw [e];exact List.mem_cons_self)),ih _ (fun h=>hn (List.mem_cons_of_mem _ h))]
  exact k _ _ h
theorem relB_L (c:Int):relBz c=decide (c∈relL):=by
 rcases codeZ_cases c with h | h
 ·unfold codeRL at h
  simp only [List.mem_cons,List.not_mem_nil,or_false] at h
  rcases h with rfl | rfl | rfl | rfl | rfl | rfl | rfl | rfl | rfl | rfl | rfl | rfl | rfl | rfl | rfl | rfl | rfl | rfl <;> decide
 ·by_cases h1:c∈relL
  ·unfold relL at h1
   simp only [List.mem_cons,List.not_mem_nil,or_false] at h1
   rcases h1 with rfl | rfl | rfl | rfl | rfl | rfl | rfl <;> decide
  ·rw [decide_eq_false h1]
   unfold relBz
   rw [h]
   unfold relL at h1
   simp only [List.mem_cons,List.not_mem_nil,or_false,not_or] at h1
   simp [h1.2.2.2.2.2.2]
theorem gatB_L (c:Int):gatB c=decide (c∈gatL):=by
 rcases codeZ_cases c with h | h
 ·unfold codeRL at h
  simp only [List.mem_cons,List.not_mem_nil,or_false] at h
  rcases h with rfl | rfl | rfl | rfl | rfl | rfl | rfl | rfl | rfl | rfl | rfl | rfl | rfl | rfl | rfl | rfl | rfl | rfl <;> decide
 ·by_cases h1:c∈gatL
  ·unfold gatL at h1
   simp only [List.mem_cons,List.not_mem_nil,or_false] at h1
   rcases h1 with rfl | rfl | rfl | rfl | rfl <;> decide
  ·rw [decide_eq_false h1]
   unfold gatB
   rw [h]
   decide
theorem code_walk (c:Int) (w:World):Calls Tryz.prog 26 #[.int .i32 c] w fun e w'=>e= .returned (.int .i64 (codeZ c))/\Below w.heap.size w w':=by
 obtain ⟨R,hR⟩:∃ R,R=codeZ c:=⟨_,rfl⟩
 obtain ⟨s,hs⟩:∃ s,s=codeStr:=⟨_,rfl⟩
 have hrl:runesOf s=codeL:=by rw [hs];exact codeStr_runes
 have HR0:Hid (R=codeS (rl s (s.size - 0) 0) 0 c):=by
  unfold Hid;rw [hR];show _=codeS (runesOf s) 0 c;rw [hrl];rfl
 have HL0:Hid ((0:Int)+(rl s (s.size - 0) 0).length<=100):=by
  unfold Hid;show (0:Int)+((runesOf s).length:Nat)<=100;rw [hrl];decide
 have HS:=Lib.hid hs
 rw [<- hR]
 clear hR hrl hs
 go_enter Tryz.func26,Tryz.ntmps26
 go_upto_region 1 with fail
 go_cut [3] from 4 (fun v wx=>v= .string s/\wx=w)
 case first =>
  go_wp2
  go_meet
  exact ⟨by rw [HS.out];rfl,rfl⟩
 case rest =>
  obtain ⟨rfl,rfl⟩:=hcut
  clear HS
  go_wp2
  go_loopw [4] (fun nv wr=>∃ (pos:Nat) (n:Int),wr=wc.iter s pos/\nv= .int .i64 n/\0<=n/\Hid (n+(rl s (s.size - pos) pos).length<=100)/\Hid (R=codeS (rl s (s.size - pos) pos) n c)) (fun _ wr=>s.size - wr.iterPos wc.heap.size)
  case atStart=>exact ⟨0,0,rfl,rfl,by omega,HL0.out,HR0.out⟩
  case round =>
   obtain ⟨pos,n,rfl,rfl,hn,hl,hrel⟩:=hrel
   by_cases h:pos < s.size
   ·have hnx:=fun ty=>run_next_any (P:=Tryz.prog) wc s pos ty h
    have HST:=Lib.hid (rl_step s h)
    have hwd:=Lib.decode_width_pos s pos h
    generalize Utf8.decode s pos=d at *
    obtain ⟨x,k⟩:=d
    simp only at hnx hwd HST
    have HL2:Hid (n+1+(rl s (s.size - (pos+k)) (pos+k)).length<=100):=by
     unfold Hid;have:=hl.out;rw [HST.out] at this;simp at this;omega
    have hn3:n+1<=100:=by have:=HL2.out;omega
    by_cases hc:(x:Int)=c
    ·by_cases hz:c=0
     ·have HT:Hid (R=codeS (rl s (s.size - (pos+k)) (pos+k)) (n+1) c):=by unfold Hid;rw [hrel.out,HST.out,codeS,if_neg (fun e=>e.2 hz)]
      have q1:((x:Int)==c)=true:=by simpa using hc
      have q2:(c != 0)=false:=by simpa using hz
      clear HST hrel hl hc hz
      go_wp2
      go_roundw
      case rel=>exact ⟨pos+k,n+1,rfl,by go_num,by omega,HL2.out,HT.out⟩
      case measure=>simp;omega
     ·have HT:Hid (R=n+1):=by unfold Hid;rw [hrel.out,HST.out,codeS,if_pos ⟨hc,hz⟩]
      have q1:((x:Int)==c)=true:=by simpa using hc
      have q2:(c != 0)=true:=by simpa using hz
      clear HST hrel hl hc hz
      go_wp2
      go_ret
      exact ⟨by rw [HT.out];go_num,(Below.refl _ wc).alloc (Nat.le_refl _) _⟩
    ·have HT:Hid (R=codeS (rl s (s.size - (pos+k)) (pos+k)) (n+1) c):=by unfold Hid;rw [hrel.out,HST.out,codeS,if_neg (fun e=>hc e.1)]
     have q1:((x:Int)==c)=false:=by simpa using hc
     clear HST hrel hl hc
     go_wp2
     go_roundw
     case rel=>exact ⟨pos+k,n+1,rfl,by go_num,by omega,HL2.out,HT.out⟩
     case measure=>simp;omega
   ·have hnx:=fun ty=>run_next_end (P:=Tryz.prog) wc s pos ty h
    have HT:Hid (R=0):=by unfold Hid;rw [hrel.out,rl_end s (by omega)];rfl
    go_wp2
    go_ret
    exact ⟨by rw [HT.out];rfl,(Below.refl _ wc).alloc (Nat.le_refl _) _⟩
theorem has_walk (s:ByteArray) (f g:Int) (w:World):Calls Tryz.prog 106 #[.string s,.int .i32 f,.int .i32 g] w fun e w'=>e= .returned (.bool (hasS (runesOf s) 0 f g))/\Below w.heap.size w w':=by
 obtain ⟨R,hR⟩:∃ R,R=hasS (runesOf s) 0 f g:=⟨_,rfl⟩
 have HR0:Hid (R=hasS (rl s (s.size - 0) 0) 0 f g):=hR
 rw [<- hR]
 clear hR
 go_enter Tryz.func106,Tryz.ntmps106
 go_wp2
 go_loopw [7,9] (fun fv _ wr=>∃ (pos:Nat) (fi:Int),wr=w.iter s pos/\fv= .int .i32 fi/\Hid (R=hasS (rl s (s.size - pos) pos) fi f g)) (fun _ _ wr=>s.size - wr.iterPos w.heap.size)
 case atStart=>exact ⟨0,0,rfl,rfl,HR0.out⟩
 case round =>
  obtain ⟨pos,fi,rfl,rfl,hrel⟩:=hrel
  by_cases h:pos < s.size
  ·have hnx:=fun ty=>run_next_any (P:=Tryz.prog) w s pos ty h
   have HST:=Lib.hid (rl_step s h)
   have hwd:=Lib.decode_width_pos s pos h
   generalize Utf8.decode s pos=d at *
   obtain ⟨x,k⟩:=d
   simp only at hnx hwd HST
   by_cases h0:fi=0
   ·have HT:Hid (R=hasS (rl s (s.size - (pos+k)) (pos+k)) x f g):=by unfold Hid;rw [hrel.out,HST.out,hasS,if_pos h0]
    have q0:(fi==0)=true:=by simpa using h0
    clear HST hrel h0
    go_wp2
    go_roundw
    case rel=>exact ⟨pos+k,x,rfl,rfl,HT.out⟩
    case measure=>simp;omega
   ·have q0:(fi==0)=false:=by simpa using h0
    by_cases hf:fi=f
    ·have q1:(fi==f)=true:=by simpa using hf
     by_cases hg:(x:Int)=g
     ·have q2:((x:Int)==g)=true:=by simpa using hg
      have HT:Hid (R=true):=by unfold Hid;rw [hrel.out,HST.out,hasS,if_neg h0,if_pos ⟨hf,hg⟩]
      clear HST hrel h0 hf hg
      go_wp2
      go_ret
      exact ⟨by rw [HT.out];rfl,(Below.refl _ w).alloc (Nat.le_refl _) _⟩
     ·have q2:((x:Int)==g)=false:=by simpa using hg
      have HT:Hid (R=hasS (rl s (s.size - (pos+k)) (pos+k)) 0 f g):=by unfold Hid;rw [hrel.out,HST.out,hasS,if_neg h0,if_neg (fun e=>hg e.2)]
      clear HST hrel h0 hf hg
      go_wp2
      go_roundw
      case rel=>exact ⟨pos+k,0,rfl,rfl,HT.out⟩
      case measure=>simp;omega
    ·have q1:(fi==f)=false:=by simpa using hf
     have HT:Hid (R=hasS (rl s (s.size - (pos+k)) (pos+k)) 0 f g):=by unfold Hid;rw [hrel.out,HST.out,hasS,if_neg h0,if_neg (fun e=>hf e.1)]
     clear HST hrel h0 hf
     go_wp2
     go_roundw
     case rel=>exact ⟨pos+k,0,rfl,rfl,HT.out⟩
     case measure=>simp;omega
  ·have hnx:=fun ty=>run_next_end (P:=Tryz.prog) w s pos ty h
   have HT:Hid (R=false):=by unfold Hid;rw [hrel.out,rl_end s (by omega)];rfl
   go_wp2
   go_ret
   exact ⟨by rw [HT.out];rfl,(Below.refl _ w).alloc (Nat.le_refl _) _⟩
theorem relation_walk (c:Int) (w:World):Calls Tryz.prog 109 #[.int .i32 c] w fun e w'=>e= .returned (.bool (relBz c))/\Below w.heap.size w w':=by
 have HC:=Lib.hid (code_walk c w)
 obtain ⟨R,hR⟩:∃ R,R=relBz c:=⟨_,rfl⟩
 have HR:Hid (R=((decide (11<=codeZ c)&&decide (codeZ c<=16))||decide (c=8714))):=hR
 rw [<- hR]
 clear hR
 generalize codeZ c=z at *
 go_enter Tryz.func109,Tryz.ntmps109
 go_wp2_with fail
 refine HC.out.mono ?_
 rintro e w1 ⟨rfl,hb⟩
 have HB:=Lib.hid hb
 clear hb
 go_wp2
 all_goals go_ret
 all_goals exact ⟨by rw [HR.out];clear HR;show Ending.returned (Value.bool _)=_;refine congrArg (fun b=>Ending.returned (Value.bool b)) ?_;first | (simp [*];done) | (rw [Bool.eq_iff_iff];simp [*];done) | (rw [Bool.eq_iff_iff];simp [*];omega),HB.out⟩
theorem gathers_walk (c:Int) (w:World):Calls Tryz.prog 108 #[.int .i32 c] w fun e w'=>e= .returned (.bool (gatB c))/\Below w.heap.size w w':=by
 have HC:=Lib.hid (code_walk c w)
 obtain ⟨R,hR⟩:∃ R,R=gatB c:=⟨_,rfl⟩
 have HR:Hid (R=(decide (codeZ c=1)||decide (codeZ c=21)||decide (codeZ c=22)||decide (codeZ c=5)||decide (codeZ c=6))):=hR
 rw [<- hR]
 clear hR
 generalize codeZ c=z at *
 go_enter Tryz.func108,Tryz.ntmps108
 go_wp2_with fail
 refine HC.out.mono ?_
 rintro e w1 ⟨rfl,hb⟩
 have HB:=Lib.hid hb
 clear hb
 go_wp2
 all_goals go_ret
 all_goals exact ⟨by rw [HR.out];clear HR;show Ending.returned (Value.bool _)=_;refine congrArg (fun b=>Ending.returned (Value.bool b)) ?_;first | (simp [*];done) | (rw [Bool.eq_iff_iff];simp [*];done) | (rw [Bool.eq_iff_iff];simp [*];omega),HB.out⟩
theorem rone_walk (c:Int) (v:Value) (l:List Int) (w:World) (hr:Runes w v l) (hl:l.length<=140737488351232) :
  Calls Tryz.prog 65 #[.int .i32 c,v] w fun e w'=>e= .returned (.bool (decide (c∈l)))/\w=w':=by
 obtain ⟨A,cc,n,rfl,hn,hcell⟩:=hr.opn
 have HC:=Lib.hid hcell
 have HN:=Lib.hid hn
 have hn2:n<=140737488351232:=by omega
 have HY:Hid (∀ k,k < l.length->l.getD k 0=c->decide (c∈l)=true):=fun k h h2=>decide_eq_true (by rw [<- h2,getD_of h];exact List.getElem_mem h)
 have HX:Hid ((∀ k,k < l.length->¬ l.getD k 0=c)->decide (c∈l)=false):=fun h=>decide_eq_false fun hm=>by
  obtain ⟨k,hk,e⟩:=List.getElem_of_mem hm
  exact h k hk (by rw [getD_of hk];exact e)
 clear hcell hn hr hl
 go_enter Tryz.func65,Tryz.ntmps65
 go_wp2
 go_loop [5] (fun i=>∃ k:Nat,k<=n/\i= .int .i64 (k:Int)/\Hid (∀ j,j < k->¬ l.getD j 0=c)) (fun i=>n - (intOf i).toNat)
 case atStart=>exact ⟨0,Nat.zero_le _,rfl,fun j h=>absurd h (by omega)⟩
 case round =>
  obtain ⟨k,hk,rfl,hall⟩:=hrel
  by_cases hlt:k < n
  ·have hkl:k < l.length:=by have:=HN.out;omega
   obtain ⟨b,o,rfl,hce⟩:=HC.out k hkl
   have hce2:=hce _ (Below.refl _ _)
   clear hce
   obtain ⟨x,hx⟩:∃ x,x=l.getD k 0:=⟨_,rfl⟩
   rw [<- hx] at hce2
   have HXX:=Lib.hid hx
   clear hx
   by_cases hp:x=c
   ·have HT:=Lib.hid (HY.out k hkl (by rw [<- HXX.out];exact hp))
    subst hp
    go_wp2
    go_ret
    exact ⟨by rw [HT.out];rfl,rfl⟩
   ·have HA:Hid (∀ j,j < k+1->¬ l.getD j 0=c):=by
     intro j hj
     rcases Nat.lt_or_ge j k with h | h
     ·exact hall.out j h
     ·obtain rfl:j=k:=by omega
      rw [<- HXX.out];exact hp
    have hp2:(x==c)=false:=by simpa using hp
    clear hp hall
    go_wp2
    go_round
    case rel=>exact ⟨k+1,by omega,by go_num,HA⟩
    case measure=>simp [intOf];omega
  ·have HT:Hid (decide (c∈l)=false):=HX.out fun j hj=>hall.out j (by have:=HN.out;omega)
   clear hall
   go_wp2
   go_ret
   exact ⟨by rw [HT.out];rfl,rfl⟩
theorem rchain_walk (f g:Int) (w:World):Calls Tryz.prog 67 #[.int .i32 f,.int .i32 g] w fun e w'=>e= .returned (.bool (chnB f g))/\Below w.heap.size w w':=by
 obtain ⟨R,hR⟩:∃ R,R=chnB f g:=⟨_,rfl⟩
 by_cases h1:f=8835
 ·have HR:Hid (R=decide (g∈[9021,9076,9035,9042,9080,44])):=by unfold Hid;rw [hR,chnB,if_pos h1]
  rw [<- hR]
  have HO:=Lib.hid (rone_walk g _ _ _ (runes_lit w [9021,9076,9035,9042,9080,44]) (by decide))
  rw [<- HR.out] at HO
  subst h1
  clear hR HR
  go_enter Tryz.func67,Tryz.ntmps67
  go_wp2_with fail
  refine HO.out.mono ?_
  rintro e w1 ⟨rfl,rfl⟩
  go_wp2
  go_ret
  exact ⟨rfl,(Below.refl _ w).alloc (Nat.le_refl _) _⟩
 ·have q1:(f==8835)=false:=by simpa using h1
  by_cases h2:f=8802
  ·have HR:Hid (R=decide (g∈[8746,9080,9076,44])):=by unfold Hid;rw [hR,chnB,if_neg h1,if_pos h2]
   rw [<- hR]
   have HO:=Lib.hid (rone_walk g _ _ _ (runes_lit w [8746,9080,9076,44]) (by decide))
   rw [<- HR.out] at HO
   subst h2
   clear hR HR
   go_enter Tryz.func67,Tryz.ntmps67
   go_wp2_with fail
   refine HO.out.mono ?_
   rintro e w1 ⟨rfl,rfl⟩
   go_wp2
   go_ret
   exact ⟨rfl,(Below.refl _ w).alloc (Nat.le_refl _) _⟩
  ·have q2:(f==8802)=false:=by simpa using h2
   have HR:Hid (R=(decide (f=9076)&&decide (g=9076)||decide (f=9021)&&decide (g=9075))):=by unfold Hid;rw [hR,chnB,if_neg h1,if_neg h2]
   rw [<- hR]
   clear hR h1 h2
   go_enter Tryz.func67,Tryz.ntmps67
   go_wp2
   all_goals go_ret
   all_goals exact ⟨by rw [HR.out];clear HR;show Ending.returned (Value.bool _)=_;refine congrArg (fun b=>Ending.returned (Value.bool b)) ?_;first | (simp [*];done) | (rw [Bool.eq_iff_iff];simp [*];done) | (rw [Bool.eq_iff_iff];simp [*];omega),Below.refl _ _⟩
theorem rcode_walk (c:Int) (w:World):Calls Tryz.prog 27 #[.int .i32 c] w fun e w'=>e= .returned (.int .i64 (codeZ c))/\Below w.heap.size w w':=by
 obtain ⟨R,hR⟩:∃ R,R=codeZ c:=⟨_,rfl⟩
 obtain ⟨W,hW⟩:∃ W,W=w.alloc (.cells (codeRL.map (Value.int .i32)).toArray 21):=⟨_,rfl⟩
 have HC:Hid (∀ k,k < 18->W.cell? ⟨w.heap.size,k,none⟩=some (.int .i32 (codeRL.getD k 0))):=fun k hk=>by
  rw [hW,World.cell?_alloc_at _ _ _ _ rfl]
  have hl:k < codeRL.length:=hk
  simp [hl]
 have HBA:Hid (Below w.heap.size w W):=by rw [hW];exact (Below.refl _ w).alloc (Nat.le_refl _) _
 have hall:∀ k,k < 18->codeRS codeRL 0 (codeRL.getD k 0)=(if k < 8 then (k:Int)+1 else if k < 14 then (k:Int)+3 else (k:Int)+7):=by decide
 have HY:Hid (∀ k,k < 18->codeRL.getD k 0=c->R=if k < 8 then (k:Int)+1 else if k < 14 then (k:Int)+3 else (k:Int)+7):=fun k hk h2=>by
  rw [hR,<- codeZ_R,<- h2]
  exact hall k hk
 have HX:Hid ((∀ j,j < 18->¬ codeRL.getD j 0=c)->R=0):=fun h=>by
  rcases codeZ_cases c with h1 | h1
  ·obtain ⟨k,hk,e⟩:=List.getElem_of_mem h1
   exact absurd (by rw [getD_of hk];exact e) (h k hk)
  ·rw [hR,h1]
 rw [<- hR]
 have HW:Hid (w.alloc (.cells #[.int .i32 43,.int .i32 45,.int .i32 215,.int .i32 247,.int .i32 8968,.int .i32 8970,.int .i32 124,.int .i32 42,.int .i32 60,.int .i32 8804,.int .i32 61,.int .i32 8805,.int .i32 62,.int .i32 8800,.int .i32 8743,.int .i32 8744,.int .i32 9074,.int .i32 9073] 21)=W):=by unfold Hid;rw [hW];rfl
 clear hR hW hall
 go_enter Tryz.func27,Tryz.ntmps27
 go_upto_region 2 with fail
 rw [HW.out]
 clear HW
 go_wp2
 go_loop [4] (fun i=>∃ k:Nat,k<=18/\i= .int .i64 (k:Int)/\Hid (∀ j,j < k->¬ codeRL.getD j 0=c)) (fun i=>18 - (intOf i).toNat)
 case atStart=>exact ⟨0,Nat.zero_le _,rfl,fun j h=>absurd h (by omega)⟩
 case round =>
  obtain ⟨k,hk,rfl,hall⟩:=hrel
  by_cases hlt:k < 18
  ·have hce2:=HC.out k hlt
   have HYK:=Lib.hid (HY.out k hlt)
   have hlt2:(k:Int) < 18:=by omega
   obtain ⟨x,hx⟩:∃ x,x=codeRL.getD k 0:=⟨_,rfl⟩
   rw [<- hx] at hce2 HYK
   have HXX:=Lib.hid hx
   clear hx
   by_cases hp:x=c
   ·have HT:=Lib.hid (HYK.out hp)
    subst hp
    clear hall
    by_cases h8:(k:Int) < 8
    ·have HT2:Hid (R=(k:Int)+1):=by unfold Hid;rw [HT.out,if_pos (by omega)]
     go_wp2
     go_ret
     exact ⟨by rw [HT2.out];go_num,HBA.out⟩
    ·by_cases h14:(k:Int) < 14
     ·have HT2:Hid (R=(k:Int)+3):=by unfold Hid;rw [HT.out,if_neg (by omega),if_pos (by omega)]
      go_wp2
      go_ret
      exact ⟨by rw [HT2.out];go_num,HBA.out⟩
     ·have HT2:Hid (R=(k:Int)+7):=by unfold Hid;rw [HT.out,if_neg (by omega),if_neg (by omega)]
      go_wp2
      go_ret
      exact ⟨by rw [HT2.out];go_num,HBA.out⟩
   ·have HA:Hid (∀ j,j < k+1->¬ codeRL.getD j 0=c):=by
     intro j hj
     rcases Nat.lt_or_ge j k with h | h
     ·exact hall.out j h
     ·obtain rfl:j=k:=by omega
      rw [<- HXX.out];exact hp
    have hp2:(x != c)=true:=by simpa using hp
    clear hp hall
    go_wp2
    go_round
    case rel=>exact ⟨k+1,by omega,by go_num,HA⟩
    case measure=>simp [intOf];omega
  ·have HT:Hid (R=0):=HX.out fun j hj=>hall.out j (by omega)
   have hge:¬ (k:Int) < 18:=by omega
   clear hall
   go_wp2
   go_ret
   exact ⟨by rw [HT.out];rfl,HBA.out⟩
end Go.Proofs.YtbakjaliponbbaaGreatDoor
