/- Plain law: runes as bytes. No program in sight. The walks of the reference's digits and whole. The walk of math.Ldexp at a finite float: the float nearest to .. Conditions: as each theorem says. -/
import Derived.Laws.Cover4
import Derived.Test.YtbakjaliponbbaaGreatDoorMg14
import Derived.Test.YtbakjaliponbbaaGreatDoorMg03
import Derived.Test.YtbakjaliponbbaaGreatDoorMg08
import Derived.Lib.TrailingZeros
set_option maxRecDepth 100000
set_option maxHeartbeats 1000000
namespace Go.Proofs.YtbakjaliponbbaaGreatDoor.Fl
open Go
theorem foldl_runes (l:List Int):∀ s:ByteArray,l.foldl (fun r n=>r++Utf8.encode n) s=s++l.foldl (fun r n=>r++Utf8.encode n) ByteArray.empty:=by
 induction l with
 | nil=>intro s;simp
 | cons c l ih =>
  intro s
  simp only [List.foldl_cons]
  rw [ih (s++Utf8.encode c),ih (ByteArray.empty++Utf8.encode c),ByteArray.empty_append,ByteArray.append_assoc]
theorem runesBytes_nil:runesBytes []=ByteArray.empty:=rfl
theorem runesBytes_cons (c:Int) (l:List Int):runesBytes (c::l)=Utf8.encode c++runesBytes l:=by
 unfold runesBytes;rw [List.foldl_cons,ByteArray.empty_append,foldl_runes]
theorem runesBytes_append (a b:List Int):runesBytes (a++b)=runesBytes a++runesBytes b:=by
 induction a with
 | nil=>simp [runesBytes_nil]
 | cons c a ih=>rw [List.cons_append,runesBytes_cons,runesBytes_cons,ih,ByteArray.append_assoc]
theorem encode_ascii (c:Int) (h0:0<=c) (h:c < 128):Utf8.encode c=⟨#[UInt8.ofNat c.toNat]⟩:=by
 have hv:Utf8.valid c=true:=by unfold Utf8.valid;simp;omega
 unfold Utf8.encode
 simp only [hv,if_true]
 rw [if_pos (by omega)]
end Go.Proofs.YtbakjaliponbbaaGreatDoor.Fl
namespace Go.Proofs.YtbakjaliponbbaaGreatDoor
open Go Go.RowKit Go.Proofs Fl
theorem conv_byte (c:Int) (h0:0<=c) (h:c < 128) (w:World) :
  (convert 253 9 (.slice (some ⟨w.heap.size,0,none⟩) 1 1)).run Tryz.prog (w.alloc (.cells #[.int .u8 c] 5))= .ok (.string (Utf8.encode c)) (w.alloc (.cells #[.int .u8 c] 5)):=by
 rw [run_convert_bytes_string (P:=Tryz.prog) _ 253 9 5 _ _ _ Tryz.underlying253 Tryz.underlying5 Tryz.underlying9]
 rw [run_bytesToString (P:=Tryz.prog) _ _ _ _ [c] (by simp [go_sem,loadCells,loadCellsFrom])]
 rw [encode_ascii c h0 h];rfl
def Texts (w0:World) (S:ByteArray) (e:Ending) (w':World):Prop:=e= .returned (.string S)/\Below w0.heap.size w0 w'
theorem u8_wrap (k:Nat):IntKind.u8.wrap ((48:Int)+(k:Int) % 10)=48+(k:Int) % 10:=by
 rw [IntKind.wrap_u8'];omega
theorem size_encode (c:Int) (h0:0<=c) (h:c < 128):(Utf8.encode c).size=1:=by rw [encode_ascii c h0 h];rfl
theorem rdigits_any (m:Nat) (hm:m<=9007199254740992) (w:World) :
  Calls Tryz.prog 223 #[.int .i64 m] w fun e w'=>Texts w (runesBytes (decR m).reverse) e w':=by
 generalize hD:decR m=D
 have HD:=Lib.hid hD
 have hlen:D.length<=16:=by
  rw [<- hD]
  rcases decR_len 16 m (by omega) with h | h
  ·exact h
  ·omega
 clear hD
 obtain ⟨B,hB⟩:∃ B,B=w.heap.size:=⟨_,rfl⟩
 have HB:=Lib.hid hB
 have HS:Hid (∀ e w',Texts w (runesBytes D.reverse) e w'=(e= .returned (.string (runesBytes D.reverse))/\Below B w w')):=by rw [hB];exact fun _ _=>rfl
 clear hB
 go_enter Tryz.func223,Tryz.ntmps223
 go_wp2
 go_loopw [0,3,4] (fun n s i wr=>∃ (k:Nat) (ds:List Int) (S:ByteArray),n= .int .i64 k/\s= .string S/\i= .int .i64 ds.length/\Hid (S=runesBytes ds.reverse)/\S.size<=64/\Hid (D=ds++decR k)/\Below B w wr/\k<=9007199254740992) (fun n _ _ _=>(intOf n).toNat)
 case atStart=>exact ⟨m,[],_,rfl,rfl,rfl,rfl,by decide,HD.out.symm,Below.refl B w,hm⟩
 case round =>
  obtain ⟨k,ds,S,rfl,rfl,rfl,hS,hsz,hq,hbel,hk⟩:=hrel
  have hch:=u8_wrap k
  have hc1:(Utf8.encode (48+(k:Int) % 10)).size=1:=size_encode _ (by omega) (by omega)
  have hdl:ds.length < 16:=by
   have h1:=congrArg List.length hq.out
   have h2:(decR k).length≠0:=by intro e;exact decR_ne k (List.eq_nil_of_length_eq_zero e)
   rw [List.length_append] at h1;omega
  have hss:S.size<=4*ds.length:=by
   rw [hS.out];have:=runesBytes_size_le ds.reverse;simpa using this
  have hBw:B<=wr.heap.size:=by rw [HB.out];exact hbel.size
  have cv:=conv_byte (48+(k:Int) % 10) (by omega) (by omega) wr
  have hS2:Hid (Utf8.encode (48+(k:Int) % 10)++S=runesBytes (ds++[(48:Int)+(k:Int) % 10]).reverse):=by
   show _=_
   rw [hS.out,List.reverse_append,List.reverse_singleton,List.singleton_append,runesBytes_cons]
  by_cases h10:k / 10=0
  ·have HE:Hid (D=ds++[(48:Int)+(k:Int) % 10]):=by
    show _=_
    rw [hq.out,decR_last h10];simp
   have hz:((k:Int) / 10==0)=true:=beq_iff_eq.2 (by omega)
   clear hq h10 hS
   generalize Utf8.encode (48+(k:Int) % 10)=E at *
   go_wp2
   go_ret
   rw [HS.out,HE.out,<- hS2.out]
   exact ⟨rfl,hbel.alloc hBw _⟩
  ·have HE:Hid (D=(ds++[(48:Int)+(k:Int) % 10])++decR (k / 10)):=by
    show _=_
    rw [hq.out,decR_next h10];simp
   have hz:((k:Int) / 10==0)=false:=beq_eq_false_iff_ne.2 (by omega)
   have hsz2:(Utf8.encode (48+(k:Int) % 10)++S).size<=64:=by rw [ByteArray.size_append];omega
   clear hq hS
   generalize Utf8.encode (48+(k:Int) % 10)=E at *
   go_wp2
   go_roundw
   case rel=>exact ⟨k / 10,_,_,by go_num,rfl,by simp,hS2,hsz2,HE,hbel.alloc hBw _,by omega⟩
   case measure=>simp [intOf];omega
theorem i64_and_nat (a b:Nat) (ha:a < 9223372036854775808) (hb:b < 9223372036854775808):bits .and .i64 (a:Int) (b:Int)=((a &&& b:Nat):Int):=by
 have e:∀ n:Nat,n < 9223372036854775808->(BitVec.ofInt 64 (n:Int)).toNat=n:=by
  intro n hn;rw [BitVec.toNat_ofInt];omega
 have h1:a &&& b<=b:=Nat.and_le_right
 have:bits .and .i64 (a:Int) (b:Int)=IntKind.i64.wrap (((BitVec.ofInt 64 (a:Int)) &&& (BitVec.ofInt 64 (b:Int))).toNat:Int):=rfl
 rw [this,BitVec.toNat_and,e a ha,e b hb]
 exact IntWalk.i64_in _ (by omega)
theorem ld_exp (s:Bool){E F:Nat} (hE:E < 2048) (hF:F < 4503599627370496) :
  bits .and .i64 (wrap64 (((Fl.wd s E F:Nat):Int) / 4503599627370496)) 2047=(E:Int):=by
 have h1:=Fl.wd_lt s hE hF
 have e:wrap64 (((Fl.wd s E F:Nat):Int) / 4503599627370496)=((Fl.wd s E F / 4503599627370496:Nat):Int):=by
  rw [IntWalk.wrap64_in _ (by omega)];omega
 rw [e]
 have:=i64_and_nat (Fl.wd s E F / 4503599627370496) 2047 (by omega) (by omega)
 rw [nat_mask11,wd_shr s hE hF] at this
 exact this
theorem ld_unexp (s:Bool){E F:Nat} (hE:E < 2048) (hF:F < 4503599627370496) :
  bits .andNot .u64 ((Fl.wd s E F:Nat):Int) 9218868437227405312=((Fl.wd s 0 F:Nat):Int):=by
 have:=andNot_c (Fl.wd s E F) 9218868437227405312 9227875636482146303 (Fl.wd_lt s hE hF) (by omega)
 rw [and_unexp s hE hF] at this
 exact this
theorem ld_or (s:Bool){E F:Nat} (hE:E < 2048) (hF:F < 4503599627370496) :
  bits .or .u64 ((Fl.wd s 0 F:Nat):Int) ((E:Int)*4503599627370496)=((Fl.wd s E F:Nat):Int):=by
 have:=u64_or_nat (Fl.wd s 0 F) (E*4503599627370496) (Fl.wd_lt s (by omega) hF) (by omega)
 rw [or_exp s hE hF] at this
 refine Eq.trans ?_ this
 congr 1
theorem ld_under (s:Bool){E F:Nat} (hE1:1<=E) (hF:F < 4503599627370496) (k:Int) (h:k+(E - 1023) < -1075) :
  ldx s ((4503599627370496+F)*2^(E - 1)) k=W s 0:=by
 rw [ldx_parts]
 exact nearest_small s (by omega) _ (by omega)
theorem ld_over (s:Bool){E F:Nat} (hE1:1<=E) (hF:F < 4503599627370496) (k:Int) (h:1023 < k+(E - 1023)) :
  ldx s ((4503599627370496+F)*2^(E - 1)) k=infw s:=by
 rw [ldx_parts]
 obtain ⟨j,hj⟩:∃ j:Nat,k+(E - 1:Nat)=j:=⟨(k+(E - 1:Nat)).toNat,by omega⟩
 rw [show -1074+k+((E - 1:Nat):Int)=-1074+(j:Int) by omega,<- nearest_shift]
 refine nearest_over s ?_
 have hl:(4503599627370496+F).log2=52:=by rw [Nat.log2_eq_iff (by omega)];omega
 rw [log2_mul_pow j (by omega),hl];omega
theorem ld_last (s:Bool){E F:Nat} (hE1:1<=E) (hF:F < 4503599627370496) (k c:Int) (m:Nat) (p:Int) (hm:Ieee.double.read m= .number false 4503599627370496 p)
  (hp:p+52+c=0) (h1:-1022<=k+(E - 1023)+c) (h2:k+(E - 1023)+c<=1023) :
  floatBits .mul .f64 m (bits .or .u64 ((Fl.wd s 0 F:Nat):Int) ((k+(E - 1023)+c+1023)*4503599627370496)).toNat
   = some (ldx s ((4503599627370496+F)*2^(E - 1)) k):=by
 obtain ⟨E',hE',b1,b2⟩:∃ E':Nat,k+(E - 1023)+c+1023=E'/\1<=E'/\E'<=2046:=⟨(k+(E - 1023)+c+1023).toNat,by omega,by omega,by omega⟩
 rw [hE',ld_or s (by omega) hF,Int.toNat_natCast]
 have:=mul_pow_l m p hm _ s _ _ (read_wd s b1 b2 hF)
 refine Eq.trans this ?_
 rw [ldx_parts]
 congr 2
 omega
theorem ldexp_core (s:Bool) (Z Y:Nat) (e:Int) (hz:Rep Z) (h0:Z≠0) (hy:Rep Y) (hl:4503599627370496<=Y) (he:-52<=e) (he2:e<=0)
  (hn:∀ w,Calls Tryz.prog 265 #[.float .f64 (W s Z)] w fun x w'=>x= .returned (.tuple #[.float .f64 (W s Y),.int .i64 e])/\w=w')
  (k:Int) (hk:-10000<=k) (hk2:k<=10000) (w:World) :
  Calls Tryz.prog 250 #[.float .f64 (W s Z),.int .i64 k] w fun x w'=>x= .returned (.float .f64 (ldx s Y (k+e)))/\w=w':=by
 have h1:=fo_eq s false hz rep_zero
 rw [W_zero,sg_zero,decide_eq_false (by rw [sg_eq_zero];exact h0)] at h1
 have h1':=beq_eq_false_iff_ne.1 h1
 obtain ⟨E,F,hE1,hE2,hF,hW,hZ⟩:=W_wd s hy hl
 have c1:=run_f64bits
 have c2:=run_f64from
 have f1:=ld_exp s (show E < 2048 by omega) hF
 have f2:=ld_unexp s (show E < 2048 by omega) hF
 rw [<- hW] at f1 f2
 have HW:=Lib.hid hW
 have HZ:=Lib.hid hZ
 have HN:=Lib.hid hn
 clear hW hZ hn
 go_enter Tryz.func250,Tryz.ntmps250
 go_wp2_with (first | (go_at_call 263;refine (isinf_W s hz _).mono ?_;rintro x w' ⟨rfl,rfl⟩) | (go_at_call 264;refine (isnan_W s hz _).mono ?_;rintro x w' ⟨rfl,rfl⟩) | (go_at_call 265;refine (HN.out _).mono ?_;rintro x w' ⟨rfl,rfl⟩))
 ·have hv:=ld_under s hE1 hF (k+e) (by omega)
  rw [<- HZ.out] at hv
  have HV:=Lib.hid hv
  clear hv
  refine (copysign_zero s hy _).mono ?_
  rintro x w' ⟨rfl,rfl⟩
  go_wp2
  go_ret
  exact ⟨by rw [HV.out];rfl,rfl⟩
 all_goals try
  have hv:=ld_over s hE1 hF (k+e) (by omega)
  rw [<- HZ.out] at hv
  have HV:=Lib.hid hv
  have h3:=fo_lt s false hy rep_zero
  rw [W_zero,sg_zero] at h3
  have hs:(FloatKind.f64.format.order (W s Y) 0==some .lt)=s:=by
   rw [h3];have:=rep_le hy;cases s
   ·exact decide_eq_false (by rw [sg_false];omega)
   ·exact decide_eq_true (by rw [sg_true];omega)
  clear hv h3
 ·have h10:((-1):Int)=if s then -1 else 1:=by
   have h9:(FloatKind.f64.format.order (W s Y) 0==some .lt)=true:=by assumption
   rw [hs] at h9
   rw [h9];rfl
  refine (inf_any s (-1) h10 _).mono ?_
  clear h10 hs
  rintro x w' ⟨rfl,rfl⟩
  go_wp2
  go_ret
  exact ⟨by rw [HV.out];rfl,rfl⟩
 ·have h10:(1:Int)=if s then -1 else 1:=by
   have h9:(FloatKind.f64.format.order (W s Y) 0==some .lt)=false:=by assumption
   rw [hs] at h9
   rw [h9];rfl
  refine (inf_any s 1 h10 _).mono ?_
  clear h10 hs
  rintro x w' ⟨rfl,rfl⟩
  go_wp2
  go_ret
  exact ⟨by rw [HV.out];rfl,rfl⟩
 ·have hv:=ld_last s hE1 hF (k+e) 53 _ _ read_m53 (by omega) (by omega) (by omega)
  rw [<- HZ.out] at hv
  have hr:=run_float_arith (P:=Tryz.prog) w .mul 96 .f64 _ _ _ hv
  clear hv
  rw [hr]
  clear hr
  go_wp2
  go_ret
  exact ⟨rfl,rfl⟩
 ·have hv:=ld_last s hE1 hF (k+e) 0 _ _ read_one (by omega) (by omega) (by omega)
  rw [<- HZ.out,Int.add_zero] at hv
  have hr:=run_float_arith (P:=Tryz.prog) w .mul 96 .f64 _ _ _ hv
  clear hv
  rw [hr]
  clear hr
  go_wp2
  go_ret
  exact ⟨rfl,rfl⟩
theorem ldexp_any (s:Bool) (Z:Nat) (hz:Rep Z) (h0:Z≠0) (k:Int) (hk:-10000<=k) (hk2:k<=10000) (w:World) :
  Calls Tryz.prog 250 #[.float .f64 (W s Z),.int .i64 k] w fun x w'=>x= .returned (.float .f64 (ldx s Z k))/\w=w':=by
 by_cases hl:4503599627370496<=Z
 ·have:=ldexp_core s Z Z 0 hz h0 hz hl (by omega) (by omega) (fun w=>norm_nrm s hz hl w) k hk hk2 w
  rwa [Int.add_zero] at this
 ·have hl:Z < 4503599627370496:=by omega
  have:=ldexp_core s Z (Z*2^52) (-52) hz h0 (mul_p52 s hz hl).1 (by omega) (by omega) (by omega) (fun w=>norm_sub s hz hl w) k hk hk2 w
  rw [ldx_shift,show k+-52+((52:Nat):Int)=k by omega] at this
  exact this
theorem ldexp_zero (s:Bool) (k:Int) (w:World) :
  Calls Tryz.prog 250 #[.float .f64 (W s 0),.int .i64 k] w fun x w'=>x= .returned (.float .f64 (W s 0))/\w=w':=by
 have h1:FloatKind.f64.format.order (W s 0) 0=some .eq:=by
  have:=order_W s false rep_zero rep_zero
  rw [sg_zero,sg_zero,cmp_eq,W_zero] at this;exact this
 go_enter Tryz.func250,Tryz.ntmps250
 go_wp2
 go_ret
 exact ⟨rfl,rfl⟩
theorem ldx_zero (s:Bool) (k:Int):ldx s 0 k=W s 0:=by simp [ldx,Ieee.Format.nearest,W,rung]
theorem Ldexp_any (s:Bool){Z:Nat} (hz:Rep Z) (k:Int) (hk:-10000<=k) (hk2:k<=10000) (w:World) :
  Calls Tryz.prog 222 #[.float .f64 (W s Z),.int .i64 k] w fun x w'=>x= .returned (.float .f64 (ldx s Z k))/\w=w':=by
 have hc:∀ w,Calls Tryz.prog 250 #[.float .f64 (W s Z),.int .i64 k] w fun x w'=>x= .returned (.float .f64 (ldx s Z k))/\w=w':=by
  intro w
  by_cases h0:Z=0
  ·subst h0;rw [ldx_zero];exact ldexp_zero s k w
  ·exact ldexp_any s Z hz h0 k hk hk2 w
 have HC:=Lib.hid hc
 clear hc hk hk2 hz
 go_enter Tryz.func222,Tryz.ntmps222
 go_wp2_with (go_at_call 250;refine (HC.out _).mono ?_;rintro x w' ⟨rfl,rfl⟩)
 go_ret
 exact ⟨rfl,rfl⟩
theorem mul_two_fits (s:Bool){X:Nat} (hX:Rep X) (h:Rep (X*2)) (w:World) :
  (binOp .mul 96 (.float .f64 (W s X)) (.float .f64 4611686018427387904)).run Tryz.prog w= .ok (.float .f64 (W s (X*2))) w:=by
 refine run_float_arith w .mul 96 .f64 _ _ _ ?_
 have:=mul_two s hX
 rw [nearest_W s h] at this
 exact this
theorem div_two_run (s:Bool){X:Nat} (hX:Rep X) (w:World) :
  (binOp .quo 96 (.float .f64 (W s X)) (.float .f64 4611686018427387904)).run Tryz.prog w= .ok (.float .f64 (W s (hlf X))) w :=
 run_float_arith w .quo 96 .f64 _ _ _ (div_two s hX)
theorem u64_exp (s:Bool){E F:Nat} (hE:E < 2048) (hF:F < 4503599627370496) :
  bits .and .u64 (((Fl.wd s E F:Nat):Int) / 4503599627370496) 2047=(E:Int):=by
 have h1:=Fl.wd_lt s hE hF
 have:=u64_and_nat (Fl.wd s E F / 4503599627370496) 2047 (by omega) (by omega)
 rw [nat_mask11,wd_shr s hE hF] at this
 exact this
theorem fr_or (s:Bool){F:Nat} (hF:F < 4503599627370496) :
  bits .or .u64 ((Fl.wd s 0 F:Nat):Int) 4602678819172646912=((Fl.wd s 1022 F:Nat):Int):=by
 have:=ld_or s (E:=1022) (by omega) hF
 exact this
def FrexpTells (f:Nat) (s:Bool) (Z:Nat):Prop :=
 ∃ (F:Nat) (x:Int) (a b:Nat),F < 4503599627370496/\Z*2^a=(4503599627370496+F)*2^b/\(b:Int) - a=x+1021/\a<=52/\b<=2045 /\
  ∀ w,Calls Tryz.prog f #[.float .f64 (W s Z)] w fun e w'=>e= .returned (.tuple #[.float .f64 (Fl.wd s 1022 F),.int .i64 x])/\w=w'
theorem frexp_walk (s:Bool) (Z Y a E F:Nat) (hz:Rep Z) (h0:Z≠0) (ha:a<=52)
  (hE1:1<=E) (hE2:E<=2046) (hF:F < 4503599627370496) (hW:W s Y=Fl.wd s E F) (x:Int) (hx:x=-(a:Int)+(E - 1023+1))
  (hn:∀ w,Calls Tryz.prog 265 #[.float .f64 (W s Z)] w fun x w'=>x= .returned (.tuple #[.float .f64 (W s Y),.int .i64 (-(a:Int))])/\w=w') (w:World) :
  Calls Tryz.prog 248 #[.float .f64 (W s Z)] w fun e w'=>e= .returned (.tuple #[.float .f64 (Fl.wd s 1022 F),.int .i64 x])/\w=w':=by
 have h1:=fo_eq s false hz rep_zero
 rw [W_zero,sg_zero,decide_eq_false (by rw [sg_eq_zero];exact h0)] at h1
 have h1':=beq_eq_false_iff_ne.1 h1
 have c1:=run_f64bits
 have c2:=run_f64from
 have f1:=u64_exp s (show E < 2048 by omega) hF
 have f2:=ld_unexp s (show E < 2048 by omega) hF
 have f3:=fr_or s hF
 rw [<- hW] at f1 f2
 have HX:=Lib.hid hx
 have HN:=Lib.hid hn
 clear hW hn hx
 go_enter Tryz.func248,Tryz.ntmps248
 go_wp2_with (first | (go_at_call 263;refine (isinf_W s hz _).mono ?_;rintro x w' ⟨rfl,rfl⟩) | (go_at_call 264;refine (isnan_W s hz _).mono ?_;rintro x w' ⟨rfl,rfl⟩) | (go_at_call 265;refine (HN.out _).mono ?_;rintro x w' ⟨rfl,rfl⟩))
 go_ret2
 exact ⟨by rw [HX.out];rfl,rfl⟩
theorem frexp_core (s:Bool) (Z Y a:Nat) (hz:Rep Z) (h0:Z≠0) (hy:Rep Y) (hl:4503599627370496<=Y) (ha:a<=52) (hYZ:Y=Z*2^a)
  (hn:∀ w,Calls Tryz.prog 265 #[.float .f64 (W s Z)] w fun x w'=>x= .returned (.tuple #[.float .f64 (W s Y),.int .i64 (-(a:Int))])/\w=w') :
  FrexpTells 248 s Z:=by
 obtain ⟨E,F,hE1,hE2,hF,hW,hZ⟩:=W_wd s hy hl
 exact ⟨F,-(a:Int)+(E - 1023+1),a,E - 1,hF,by rw [<- hYZ];exact hZ,by omega,ha,by omega,frexp_walk s Z Y a E F hz h0 ha hE1 hE2 hF hW _ rfl hn⟩
theorem frexp_any (s:Bool){Z:Nat} (hz:Rep Z) (h0:Z≠0):FrexpTells 248 s Z:=by
 by_cases hl:4503599627370496<=Z
 ·exact frexp_core s Z Z 0 hz h0 hz hl (by omega) (by simp) (fun w=>by simpa using norm_nrm s hz hl w)
 ·have hl:Z < 4503599627370496:=by omega
  exact frexp_core s Z (Z*2^52) 52 hz h0 (mul_p52 s hz hl).1 (by omega) (by omega) rfl (fun w=>norm_sub s hz hl w)
theorem Frexp_walk (b c:Nat) (x:Int) (hn:∀ w,Calls Tryz.prog 248 #[.float .f64 b] w fun e w'=>e= .returned (.tuple #[.float .f64 c,.int .i64 x])/\w=w') (w:World) :
  Calls Tryz.prog 221 #[.float .f64 b] w fun e w'=>e= .returned (.tuple #[.float .f64 c,.int .i64 x])/\w=w':=by
 have HN:=Lib.hid hn
 clear hn
 go_enter Tryz.func221,Tryz.ntmps221
 go_wp2_with (go_at_call 248;refine (HN.out _).mono ?_;rintro x w' ⟨rfl,rfl⟩)
 go_ret2
 exact ⟨rfl,rfl⟩
theorem Frexp_any (s:Bool){Z:Nat} (hz:Rep Z) (h0:Z≠0):FrexpTells 221 s Z:=by
 obtain ⟨F,x,a,b,h1,h2,h3,h4,h5,h6⟩:=frexp_any s hz h0
 exact ⟨F,x,a,b,h1,h2,h3,h4,h5,Frexp_walk _ _ _ h6⟩
def PartsIs (s:Bool) (Z:Nat) (e:Ending):Prop :=
 ∃ q j:Nat,e= .returned (.tuple #[.int .i64 (sg s q),.int .i64 ((j:Int) - 1074)])/\q % 2=1/\Z=q*2^j
theorem wd_W (s:Bool){E F:Nat} (h1:1<=E) (h2:E<=2046) (hF:F < 4503599627370496) :
  Fl.wd s E F=W s ((4503599627370496+F)*2^(E - 1))/\Rep ((4503599627370496+F)*2^(E - 1)):=by
 have hr:E*4503599627370496+F < 9218868437227405312:=by omega
 have hm:mag (E*4503599627370496+F)=(4503599627370496+F)*2^(E - 1):=by
  have h3:¬ (E*4503599627370496+F < 2^52):=by omega
  unfold mag mg ex
  simp only [h3,if_false]
  have e1:(E*4503599627370496+F) % 2^52=F:=by omega
  have e2:(E*4503599627370496+F) / 2^52 - 1=E - 1:=by omega
  rw [e1,e2]
 rw [wd_word,<- W_mag,hm]
 exact ⟨rfl,by rw [<- hm];exact rep_mag hr⟩
theorem odd_parts:∀ M:Nat,M≠0->∃ z r,M=2^z*(2*r+1):=by
 intro M
 induction M using Nat.strongRecOn with
 | _ M ih =>
  intro h
  rcases Nat.mod_two_eq_zero_or_one M with h2 | h2
  ·obtain ⟨z,r,e⟩:=ih (M / 2) (by omega) (by omega)
   refine ⟨z+1,r,?_⟩
   have:M=M / 2*2:=by omega
   rw [this,e,Nat.pow_succ,Nat.mul_right_comm]
  ·exact ⟨0,M / 2,by simp;omega⟩
theorem parts_shift {Z M a b z r:Nat} (h:Z*2^a=M*2^b) (hM:M=2^z*(2*r+1)):∃ j,j+a=z+b/\Z=(2*r+1)*2^j:=by
 rw [hM] at h
 have h1:Z*2^a=(2*r+1)*2^(z+b):=by rw [h,Nat.pow_add,Nat.mul_comm (2^z),Nat.mul_assoc]
 by_cases hle:a<=z+b
 ·refine ⟨z+b - a,by omega,?_⟩
  have e:z+b=(z+b - a)+a:=by omega
  rw [e,Nat.pow_add,<- Nat.mul_assoc] at h1
  exact Nat.eq_of_mul_eq_mul_right (Nat.two_pow_pos a) h1
 ·obtain ⟨d,hd⟩:∃ d,a=d+1+(z+b):=⟨a - (z+b) - 1,by omega⟩
  rw [hd,Nat.pow_add,<- Nat.mul_assoc] at h1
  have h2:=Nat.eq_of_mul_eq_mul_right (Nat.two_pow_pos (z+b)) h1
  rw [Nat.pow_succ,<- Nat.mul_assoc] at h2
  omega
theorem sg_mul_div (s:Bool) (z q:Nat):sg s (2^z*q) / ((2^z:Nat):Int)=sg s q:=by
 have hp:((2^z:Nat):Int)≠0:=by have:=Nat.two_pow_pos z;omega
 unfold sg;split
 ·rw [Int.natCast_mul,<- Int.mul_neg,Int.mul_ediv_cancel_left _ hp]
 ·rw [Int.natCast_mul,Int.mul_ediv_cancel_left _ hp]
theorem u64_sg (s:Bool) (z r:Nat) (h:2^z*(2*r+1) < 9223372036854775808) :
  ∃ m,2^z*(2*m+1) < 18446744073709551616/\IntKind.u64.wrap (sg s (2^z*(2*r+1)))=((2^z*(2*m+1):Nat):Int):=by
 rw [IntKind.wrap_u64]
 cases s
 ·exact ⟨r,by omega,by rw [sg_false];omega⟩
 ·have hz:z < 64:=by
   have h1:2^z<=2^z*(2*r+1):=Nat.le_mul_of_pos_right _ (by omega)
   exact (Nat.pow_lt_pow_iff_right (a:=2) (by omega)).1 (show 2^z < 2^64 by omega)
  have hp:=Nat.two_pow_pos z
  have e64:2^z*2^(64 - z)=18446744073709551616:=by rw [<- Nat.pow_add,show z+(64 - z)=64 by omega]
  have e64':2^z*(2*2^(63 - z))=18446744073709551616:=by
   rw [<- e64,show 64 - z=63 - z+1 by omega,Nat.pow_succ,Nat.mul_comm (2^(63 - z))]
  have hlt:2*r+1 < 2*2^(63 - z):=by
   refine Nat.lt_of_mul_lt_mul_left (a:=2^z) ?_
   omega
  refine ⟨2^(63 - z) - r - 1,?_,?_⟩
  ·have:2^z*(2*(2^(63 - z) - r - 1)+1) < 2^z*(2*2^(63 - z)):=Nat.mul_lt_mul_of_pos_left (by omega) hp
   omega
  ·have:2^z*(2*(2^(63 - z) - r - 1)+1)+2^z*(2*r+1)=2^z*(2*2^(63 - z)):=by
    rw [<- Nat.mul_add];congr 1;omega
   rw [sg_true]
   generalize 2^z*(2*(2^(63 - z) - r - 1)+1)=A at *
   have hb:0 < 2^z*(2*r+1):=Nat.mul_pos hp (by omega)
   generalize 2^z*(2*r+1)=B at *
   omega
theorem lparts_core (N Q x:Int) (z u b c d:Nat) (w:World) (hx:-3000<=x) (hx2:x<=3000) (hz:z < 64)
  (hb:FloatKind.f64.format.order b 0≠some .eq)
  (hf:∀ w,Calls Tryz.prog 221 #[.float .f64 b] w fun e w'=>e= .returned (.tuple #[.float .f64 c,.int .i64 x])/\w=w')
  (hl:∀ w,Calls Tryz.prog 222 #[.float .f64 c,.int .i64 53] w fun e w'=>e= .returned (.float .f64 d)/\w=w')
  (c1:∀ w,(convert 96 2 (.float .f64 d)).run Tryz.prog w= .ok (.int .i64 N) w)
  (c2:IntKind.u64.wrap N=(u:Int)) (c3:N / 2^z=Q)
  (ht:Calls Tryz.prog 198 #[.int .u64 (u:Int)] w fun e w'=>e= .returned (.int .i64 z)/\w=w') :
  Calls Tryz.prog 176 #[.float .f64 b] w fun e w'=>e= .returned (.tuple #[.int .i64 Q,.int .i64 (x - 53+z)])/\w=w':=by
 have hb':(FloatKind.f64.format.order b 0==some .eq)=false:=beq_eq_false_iff_ne.2 hb
 have HF:=Lib.hid hf
 have HL:=Lib.hid hl
 have HT:=Lib.hid ht
 clear hf hl ht
 go_enter Tryz.func176,Tryz.ntmps176
 go_wp2_with (first | (go_at_call 221;refine (HF.out _).mono ?_;rintro x w' ⟨rfl,rfl⟩) | (go_at_call 222;refine (HL.out _).mono ?_;rintro x w' ⟨rfl,rfl⟩) | (go_at_call 198;refine HT.out.mono ?_;rintro x w' ⟨rfl,rfl⟩))
 go_ret2
 exact ⟨rfl,rfl⟩
theorem lparts_any (s:Bool){Z:Nat} (hz:Rep Z) (h0:Z≠0) (w:World) (ht:TzTab w) :
  Calls Tryz.prog 176 #[.float .f64 (W s Z)] w fun e w'=>PartsIs s Z e/\w=w':=by
 have hb:FloatKind.f64.format.order (W s Z) 0≠some .eq:=by
  have h1:=fo_eq s false hz rep_zero
  rw [W_zero,sg_zero,decide_eq_false (by rw [sg_eq_zero];exact h0)] at h1
  exact beq_eq_false_iff_ne.1 h1
 have key:∀ (F:Nat) (x:Int) (a b:Nat),F < 4503599627370496->Z*2^a=(4503599627370496+F)*2^b->(b:Int) - a=x+1021->a<=52->b<=2045 ->
   (∀ w,Calls Tryz.prog 221 #[.float .f64 (W s Z)] w fun e w'=>e= .returned (.tuple #[.float .f64 (Fl.wd s 1022 F),.int .i64 x])/\w=w') ->
   Calls Tryz.prog 176 #[.float .f64 (W s Z)] w fun e w'=>PartsIs s Z e/\w=w':=by
  intro F x a b hF hZ hx ha hb2 hf
  obtain ⟨E,hE⟩:∃ E:Nat,E=1022:=⟨_,rfl⟩
  rw [<- hE] at hf
  obtain ⟨hW,hr⟩:=wd_W s (E:=E) (by omega) (by omega) hF
  have hl:∀ w,Calls Tryz.prog 222 #[.float .f64 (Fl.wd s E F),.int .i64 53] w fun e w'=>e= .returned (.float .f64 (W s ((4503599627370496+F)*2^K)))/\w=w':=by
   intro w
   have:=Ldexp_any s hr 53 (by omega) (by omega) w
   have e:ldx s ((4503599627370496+F)*2^(E - 1)) 53=W s ((4503599627370496+F)*2^K):=by
    rw [ldx_parts,<- nearest_W s (rep_unit (by omega)),nearest_shift]
    congr 1;unfold K;omega
   rw [e,<- hW] at this
   exact this
  have hrK:Rep ((4503599627370496+F)*2^K):=rep_unit (by omega)
  have hM0:4503599627370496+F≠0:=by omega
  have hM53:4503599627370496+F < 9007199254740992:=by omega
  clear hr hF
  generalize 4503599627370496+F=M at *
  obtain ⟨z,r,hM⟩:=odd_parts M hM0
  obtain ⟨j,hj,hZj⟩:=parts_shift hZ hM
  obtain ⟨m,hm,hu⟩:=u64_sg s z r (by rw [<- hM];omega)
  rw [<- hM] at hu
  have hzz:z < 64:=by
   have h1:2^z<=2^z*(2*r+1):=Nat.le_mul_of_pos_right _ (by omega)
   exact (Nat.pow_lt_pow_iff_right (a:=2) (by omega)).1 (show 2^z < 2^64 by omega)
  have c1:∀ w,(convert 96 2 (.float .f64 (W s (M*2^K)))).run Tryz.prog w= .ok (.int .i64 (sg s M)) w:=by
   intro w
   have:=toInt64_W s hrK (by rw [Nat.mul_div_cancel _ K_pos];omega)
   rw [Nat.mul_div_cancel _ K_pos] at this
   exact run_convert_float_int (P:=Tryz.prog) w 96 2 .f64 .i64 (W s (M*2^K)) _ (by kernel_rfl) Tryz.underlying2 this
  have c3:sg s M / 2^z=sg s (2*r+1):=by
   rw [hM,<- sg_mul_div s z (2*r+1),Int.natCast_pow];rfl
  refine (lparts_core (sg s M) (sg s (2*r+1)) x z _ (W s Z) _ _ w (by omega) (by omega) hzz hb hf hl c1 hu c3 (tz_any z m hm w ht)).mono ?_
  rintro e w' ⟨rfl,rfl⟩
  refine ⟨⟨2*r+1,j,?_,by omega,hZj⟩,rfl⟩
  rw [show x - 53+(z:Int)=(j:Int) - 1074 by omega]
 obtain ⟨F,x,a,b,q1,q2,q3,q4,q5,q6⟩:=Frexp_any s hz h0
 exact key F x a b q1 q2 q3 q4 q5 q6
end Go.Proofs.YtbakjaliponbbaaGreatDoor
