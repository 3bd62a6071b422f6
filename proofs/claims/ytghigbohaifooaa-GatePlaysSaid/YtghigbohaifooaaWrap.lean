/- Gate: the contracts of wrap.Word and wrap.Add on numbers from 0 on. -/
import Derived.Test.YtghigbohaifooaaBase
import Derived.Laws.BitsLemmas
namespace Go.Proofs.Ytghigbohaifooaa.Gates
set_option linter.unusedVariables false
set_option linter.unusedSimpArgs false
open Go.RowKit

theorem wraps_i64 (n : Int) (h0 : 0 ≤ n) (h1 : n < 2 ^ 63) : IntKind.i64.wrap n = n := by
  have h2 : n < 9223372036854775808 := h1
  rw [IntKind.wrap_i64]; omega

theorem and_word (x : Int) (h0 : 0 ≤ x) (h1 : x ≤ 9223372036854775807) : bits .and .i64 x 65535 = x % 65536 :=
  bits_mask .i64 63 (by decide) wraps_i64 16 (by decide) x h0 (by show x < 9223372036854775808; omega)

theorem word_any (x : Int) (w : World) (h0 : 0 ≤ x) (h1 : x ≤ 9223372036854775807) :
    Calls Try.prog 26 #[.int .i64 x] w fun e w' => e = .returned (.int .i64 (x % 65536)) ∧ w = w' := by
  have h := Lib.hid (and_word x h0 h1)
  go_enter Try.func26, Try.ntmps26
  go_wp2_with fail
  go_ret
  rw [h.out]
  exact ⟨rfl, rfl⟩

theorem add_any (x y : Int) (w : World) (h0 : 0 ≤ x) (h1 : x ≤ 9223372036854775807) (g0 : 0 ≤ y) (g1 : y ≤ 9223372036854775807) :
    Calls Try.prog 13 #[.int .i64 x, .int .i64 y] w fun e w' => e = .returned (.int .i64 ((x + y) % 65536)) ∧ w = w' := by
  go_enter Try.func13, Try.ntmps13
  go_wp2_with fail
  refine (word_any x _ h0 h1).mono ?_
  rintro e w' ⟨rfl, rfl⟩
  go_wp2_with fail
  refine (word_any y _ g0 g1).mono ?_
  rintro e w' ⟨rfl, rfl⟩
  go_wp2_with fail
  refine (word_any _ _ (by omega) (by omega)).mono ?_
  rintro e w' ⟨rfl, rfl⟩
  go_wp2_with fail
  go_ret
  exact ⟨rfl, rfl⟩

end Go.Proofs.Ytghigbohaifooaa.Gates
