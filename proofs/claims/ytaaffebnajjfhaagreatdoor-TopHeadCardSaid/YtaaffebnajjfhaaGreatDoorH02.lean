/- Texts of this proof, merged: Float, Cell. -/
import Derived.Laws.FloatArith
import Derived.Test.YtaaffebnajjfhaaGreatDoorProg
import Derived.WalkKit
import Derived.WalkSpells
import Derived.WalkSmall
import Derived.Deep.Draws
import Derived.Deep.QuietTactic
import Derived.BigQuiet
import Derived.Laws.BitsLemmas
import Derived.WalkLawsBesides
import Derived.Lib.Hide
import Derived.Outline
import Derived.KernelRfl
namespace Go.Proofs.YtaaffebnajjfhaaGreatDoor.T
set_option linter.unusedVariables false
set_option linter.unusedSimpArgs false
set_option linter.unusedSectionVars false
open Go.RowKit
def fl (n:Nat):Nat:=FloatKind.f64.nearest (n:Int)
theorem cut_none (m:Nat):Ieee.Toward.even.cut false m 0=m:=by
 simp [Ieee.Toward.cut,Nat.mod_one]
theorem near (n L:Nat) (hL:L≤15) (h0:2 ^ L≤n) (h1:n<2 ^ (L+1)):fl n=(L+1022)*4503599627370496+n*2 ^ (52-L):=by
 have hn:n≠0:=by
  have:0<2 ^ L:=Nat.two_pow_pos L
  omega
 have hlog:n.log2=L:=by
  have a:L≤n.log2:=(Nat.le_log2 hn).2 h0
  have b:n.log2<L+1:=(Nat.log2_lt hn).2 h1
  omega
 have hlast:max ((0:Int)+n.log2-(52:Nat)) (-1074)=(L:Int)-52:=by rw [hlog];omega
 unfold fl FloatKind.nearest FloatKind.encode FloatKind.format Ieee.Format.write Ieee.Format.nearest
 have hneg:decide ((n:Int)<0)=false:=by simp
 have hlp:Ieee.double.leastPlace= -1074:=by decide
 have hfb:Ieee.double.fractionBits=52:=rfl
 have hbin:Ieee.double.binade=4503599627370496:=by decide
 have hinf:Ieee.double.infRung=9218868437227405312:=by decide
 simp only [Int.natAbs_natCast,hn,if_false,hneg,hlp,hfb,hbin,hinf,hlast]
 rw [show ((0:Int)-((L:Int)-52)).toNat=52-L by omega,show ((L:Int)-52-0).toNat=0 by omega,cut_none,show ((L:Int)-52 - -1074).toNat=L+1022 by omega,Nat.shiftLeft_eq]
 have hm:n*2 ^ (52-L)<9007199254740992:=by
  have:9007199254740992=2 ^ (L+1)*2 ^ (52-L):=by rw [←Nat.pow_add,show L+1+(52-L)=53 by omega]
  rw [this]
  exact Nat.mul_lt_mul_of_pos_right h1 (Nat.two_pow_pos _)
 generalize n*2 ^ (52-L)=m at *
 unfold Ieee.Format.word
 simp only [Bool.false_eq_true,if_false]
 rw [Nat.min_eq_left]
 omega
theorem read_fl (n L:Nat) (hL:L≤15) (h0:2 ^ L≤n) (h1:n<2 ^ (L+1)):Ieee.double.read (fl n)= .number false (n*2 ^ (52-L)) ((L:Int)-52):=by
 rw [near n L hL h0 h1]
 have hm:n*2 ^ (52-L)<9007199254740992:=by
  have:9007199254740992=2 ^ (L+1)*2 ^ (52-L):=by rw [←Nat.pow_add,show L+1+(52-L)=53 by omega]
  rw [this]
  exact Nat.mul_lt_mul_of_pos_right h1 (Nat.two_pow_pos _)
 have hm0:4503599627370496≤n*2 ^ (52-L):=by
  have:4503599627370496=2 ^ L*2 ^ (52-L):=by rw [←Nat.pow_add,show L+(52-L)=52 by omega]
  rw [this]
  exact Nat.mul_le_mul_right _ h0
 generalize n*2 ^ (52-L)=m at *
 have hbin:Ieee.double.binade=4503599627370496:=by decide
 have hinf:Ieee.double.infRung=9218868437227405312:=by decide
 have hsw:Ieee.double.signWeight=9223372036854775808:=by decide
 have hlp:Ieee.double.leastPlace= -1074:=by decide
 unfold Ieee.Format.read
 simp only [hbin,hinf,hsw,hlp]
 have hb:(L+1022)*4503599627370496+m<9218868437227405312:=by omega
 have e1:((L+1022)*4503599627370496+m) / 9223372036854775808=0:=by omega
 have e2:((L+1022)*4503599627370496+m)%9223372036854775808=(L+1022)*4503599627370496+m:=by omega
 have e3:((L+1022)*4503599627370496+m) / 4503599627370496=L+1023:=by omega
 have e4:4503599627370496+((L+1022)*4503599627370496+m)%4503599627370496=m:=by omega
 rw [e1,e2,e3,e4,if_neg (by omega),if_pos hb,show (-1074:Int)+((L+1023-1:Nat):Int)=(L:Int)-52 by omega]
 rfl
theorem read_zero:Ieee.double.read 0= .number false 0 (-1074):=by decide
theorem read_last:Ieee.double.read 4679239875398991872= .number false 9007061815787520 (-37):=by decide
theorem log_of (n:Nat) (h0:n≠0) (h:n<65536):∃L,L≤15∧2 ^ L≤n∧n<2 ^ (L+1):=by
 refine ⟨n.log2, ?_,Nat.log2_self_le h0,Nat.lt_log2_self⟩
 have:n.log2<16:=(Nat.log2_lt h0).2 (by omega)
 omega
theorem cmp_int (a b:Int):compare a b=if a<b then .lt else if a=b then .eq else .gt:=rfl
theorem fl_ge (n:Nat) (h:n<65536):(Ieee.double.order (fl n) 0 == some .gt||Ieee.double.order (fl n) 0 == some .eq)=true:=by
 by_cases h0:n=0
 ·subst h0;decide
 ·obtain ⟨L,hL,h1,h2⟩:=log_of n h0 h
  unfold Ieee.Format.order
  rw [read_fl n L hL h1 h2,read_zero]
  simp only [Ieee.Datum.order,Ieee.signed,cmp_int,Bool.false_eq_true,if_false,Nat.shiftLeft_eq]
  have:(0:Int)<((n*2 ^ (52-L)*2 ^ ((L:Int)-52-min ((L:Int)-52) (-1074)).toNat:Nat):Int):=by
   have:0<n*2 ^ (52-L)*2 ^ ((L:Int)-52-min ((L:Int)-52) (-1074)).toNat:=Nat.mul_pos (Nat.mul_pos (by omega) (Nat.two_pow_pos _)) (Nat.two_pow_pos _)
   omega
  rw [if_neg (by rw [Nat.zero_mul];omega),if_neg (by rw [Nat.zero_mul];omega)]
  rfl
theorem fl_le (n:Nat) (h:n<65536):(Ieee.double.order (fl n) 4679239875398991872 == some .lt||Ieee.double.order (fl n) 4679239875398991872 == some .eq)=true:=by
 by_cases h0:n=0
 ·subst h0;decide
 ·obtain ⟨L,hL,h1,h2⟩:=log_of n h0 h
  unfold Ieee.Format.order
  rw [read_fl n L hL h1 h2,read_last]
  simp only [Ieee.Datum.order,Ieee.signed,cmp_int,Bool.false_eq_true,if_false,Nat.shiftLeft_eq]
  rw [show min ((L:Int)-52) (-37)=(L:Int)-52 by omega,show ((L:Int)-52-((L:Int)-52)).toNat=0 by omega,show ((-37:Int)-((L:Int)-52)).toNat=15-L by omega]
  have hp:n*2 ^ (52-L)*2 ^ 0≤9007061815787520*2 ^ (15-L):=by
   rw [show (9007061815787520:Nat)=65535*2 ^ 37 by decide,Nat.mul_assoc 65535, ←Nat.pow_add,show 37+(15-L)=52-L by omega,Nat.pow_zero,Nat.mul_one]
   exact Nat.mul_le_mul_right _ (by omega)
  have hp':((n*2 ^ (52-L)*2 ^ 0:Nat):Int)≤((9007061815787520*2 ^ (15-L):Nat):Int):=by exact_mod_cast hp
  generalize ((n*2 ^ (52-L)*2 ^ 0:Nat):Int)=a at *
  generalize ((9007061815787520*2 ^ (15-L):Nat):Int)=b at *
  by_cases hab:a<b
  ·rw [if_pos hab];rfl
  ·rw [if_neg hab,if_pos (by omega)];rfl
theorem fl_eq (n:Nat) (h:n<65536):(Ieee.double.order (fl n) (fl n) == some .eq)=true:=by
 by_cases h0:n=0
 ·subst h0;decide
 ·obtain ⟨L,hL,h1,h2⟩:=log_of n h0 h
  unfold Ieee.Format.order
  rw [read_fl n L hL h1 h2]
  simp only [Ieee.Datum.order,cmp_int]
  simp
theorem fl_int (n:Nat) (h:n<65536):floatToIntVal .f64 (fl n) .i64=some (n:Int):=by
 have key:(FloatKind.f64.decode (fl n)).toInt .zero=some (n:Int):=by
  by_cases h0:n=0
  ·subst h0;decide
  ·obtain ⟨L,hL,h1,h2⟩:=log_of n h0 h
   show (Ieee.double.read (fl n)).toInt .zero=_
   rw [read_fl n L hL h1 h2]
   unfold Ieee.Datum.toInt Ieee.Datum.integral
   simp only
   rw [show ((L:Int)-52).toNat=0 by omega,show (-((L:Int)-52)).toNat=52-L by omega,Nat.shiftLeft_eq,Nat.pow_zero,Nat.mul_one]
   have hpos:n*2 ^ (52-L)≠0:=Nat.ne_of_gt (Nat.mul_pos (by omega) (Nat.two_pow_pos _))
   have hlg:52-L≤(n*2 ^ (52-L)).log2+2:=by
    have:52≤(n*2 ^ (52-L)).log2:=by
     rw [Nat.le_log2 hpos]
     calc 2 ^ 52=2 ^ L*2 ^ (52-L):=by rw [←Nat.pow_add,show L+(52-L)=52 by omega]
      _≤_:=Nat.mul_le_mul_right _ h1
    omega
   have hcut:Ieee.Toward.zero.cut false (n*2 ^ (52-L)) (52-L)=n:=by
    unfold Ieee.Toward.cut
    simp only
    rw [Nat.min_eq_left hlg,Nat.shiftLeft_eq,Nat.one_mul,Nat.mul_div_cancel _ (Nat.two_pow_pos _)]
    rfl
   rw [hcut]
   simp [Ieee.signed]
 unfold floatToIntVal
 rw [key]
 simp only
 rw [if_pos]
 exact ⟨by show (-9223372036854775808:Int)≤_;omega,by show _≤(9223372036854775807:Int);omega⟩
theorem and65535 (n:Int):bits .and .i64 n 65535=n%65536:=by
 have hm:(BitVec.ofInt 64 65535).toNat=2 ^ 16-1:=by decide
 have key:(BitVec.ofInt 64 n &&& BitVec.ofInt 64 65535).toNat=(n%((2 ^ 64:Nat):Int)).toNat%2 ^ 16:=by
  rw [BitVec.toNat_and,BitVec.toNat_ofInt,hm,Nat.and_two_pow_sub_one_eq_mod]
 show IntKind.i64.wrap ((BitVec.ofInt 64 n &&& BitVec.ofInt 64 65535).toNat:Nat)=n%65536
 rw [key,IntKind.wrap_i64]
 omega
theorem word_any (x:Int) (w:World):
  Calls Tryz.prog 63 #[.int .i64 x] w fun e w'=>e= .returned (.int .i64 (x%65536))∧w=w':=by
 have h:=Lib.hid (and65535 x)
 go_enter Tryz.func63,Tryz.ntmps63
 go_wp2_with fail
 go_ret
 rw [h.out]
 exact ⟨rfl,rfl⟩
theorem add_any (x y:Int) (w:World):
  Calls Tryz.prog 103 #[.int .i64 x, .int .i64 y] w fun e w'=>e= .returned (.int .i64 ((x+y)%65536))∧w=w':=by
 go_enter Tryz.func103,Tryz.ntmps103
 go_wp2_with fail
 refine (word_any x _).mono ?_
 rintro e w' ⟨rfl,rfl⟩
 go_wp2_with fail
 refine (word_any y _).mono ?_
 rintro e w' ⟨rfl,rfl⟩
 go_wp2_with fail
 refine (word_any _ _).mono ?_
 rintro e w' ⟨rfl,rfl⟩
 go_wp2_with fail
 go_ret
 exact ⟨rfl,rfl⟩
theorem sub_any (x y:Int) (w:World):
  Calls Tryz.prog 161 #[.int .i64 x, .int .i64 y] w fun e w'=>e= .returned (.int .i64 ((x-y)%65536))∧w=w':=by
 have hx:(x%65536-y%65536)%65536=(x-y)%65536:=by omega
 have HX:=Lib.hid hx;clear hx
 go_enter Tryz.func161,Tryz.ntmps161
 go_wp2_with fail
 refine (word_any x _).mono ?_
 rintro e w' ⟨rfl,rfl⟩
 go_wp2_with fail
 refine (word_any y _).mono ?_
 rintro e w' ⟨rfl,rfl⟩
 go_wp2_with fail
 refine (word_any _ _).mono ?_
 rintro e w' ⟨rfl,rfl⟩
 rw [HX.out]
 go_wp2_with fail
 go_ret
 exact ⟨rfl,rfl⟩
theorem may_any (x:Int) (w:World):
  Calls Tryz.prog 134 #[.int .i64 x] w fun e w'=>e= .returned (.bool (x == x%65536))∧w=w':=by
 go_enter Tryz.func134,Tryz.ntmps134
 go_wp2_with fail
 refine (word_any _ _).mono ?_
 rintro e w' ⟨rfl,rfl⟩
 go_wp2_with fail
 go_ret
 exact ⟨rfl,rfl⟩
def cpx (x:Nat × Nat):Value:= .complex .f64 (fl x.1) (fl x.2)
theorem of_any (a x:Nat) (ha:a<65536) (hx:x<65536) (w:World):
  Calls Tryz.prog 129 #[.int .i64 a, .int .i64 x] w fun e w'=>e= .returned (.tuple #[cpx (a,x), .bool true])∧w=w':=by
 have ha1:((a:Int) == (a:Int)%65536)=true:=by rw [beq_iff_eq];omega
 have hx1:((x:Int) == (x:Int)%65536)=true:=by rw [beq_iff_eq];omega
 go_enter Tryz.func129,Tryz.ntmps129
 go_wp2_with fail
 refine (may_any _ _).mono ?_
 rintro e w' ⟨rfl,rfl⟩
 rw [ha1]
 go_wp2_with fail
 refine (may_any _ _).mono ?_
 rintro e w' ⟨rfl,rfl⟩
 rw [hx1]
 go_wp2_with fail
 go_ret2
 exact ⟨rfl,rfl⟩
theorem under3:Tryz.prog.underlying 3=some (.int .i64):=by kernel_rfl
theorem under202:Tryz.prog.underlying 202=some (.float .f64):=by kernel_rfl
theorem conv_fl (n:Nat) (w:World):(convert 3 202 (.int .i64 n)).run Tryz.prog w= .ok (.float .f64 (fl n)) w:=by
 simp [convert,run_underlying under3,run_underlying under202,fl,Conv.intToFloat]
theorem conv_int (n:Nat) (h:n<65536) (w:World):(convert 202 3 (.float .f64 (fl n))).run Tryz.prog w= .ok (.int .i64 n) w:=
 run_convert_float_int w 202 3 .f64 .i64 (fl n) n (by rw [under202];rfl) under3 (fl_int n h)
set_option maxRecDepth 100000 in
theorem part_any (n:Nat) (h:n<65536) (w:World):
  Calls Tryz.prog 135 #[.float .f64 (fl n)] w fun e w'=>e= .returned (.int .i64 n)∧w=w':=by
 have h1:(FloatKind.f64.format.order (fl n) 0 == some .gt||FloatKind.f64.format.order (fl n) 0 == some .eq)=true:=fl_ge n h
 have h2:(FloatKind.f64.format.order (fl n) 4679239875398991872 == some .lt||FloatKind.f64.format.order (fl n) 4679239875398991872 == some .eq)=true:=fl_le n h
 have h3:(FloatKind.f64.format.order (fl n) (fl n) == some .eq)=true:=fl_eq n h
 have h4:=conv_int n h
 have h5:=conv_fl n
 generalize fl n=b at *
 go_enter Tryz.func135,Tryz.ntmps135
 go_wp2_with fail
 go_ret
 exact ⟨rfl,rfl⟩
theorem parts_any (x:Nat × Nat) (h1:x.1<65536) (h2:x.2<65536) (w:World):
  Calls Tryz.prog 131 #[cpx x] w fun e w'=>e= .returned (.tuple #[.int .i64 x.1, .int .i64 x.2, .bool true])∧w=w':=by
 unfold cpx
 go_enter Tryz.func131,Tryz.ntmps131
 go_wp2_with fail
 refine (part_any _ h1 _).mono ?_
 rintro e w' ⟨rfl,rfl⟩
 go_wp2_with fail
 refine (part_any _ h2 _).mono ?_
 rintro e w' ⟨rfl,rfl⟩
 go_wp2_with fail
 go_ret3
 exact ⟨rfl,rfl⟩
end Go.Proofs.YtaaffebnajjfhaaGreatDoor.T
