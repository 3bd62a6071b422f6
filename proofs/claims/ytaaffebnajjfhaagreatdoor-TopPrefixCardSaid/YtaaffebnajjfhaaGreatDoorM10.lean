/- Texts of this proof, merged: Giver, Same. -/
import Derived.Test.YtaaffebnajjfhaaGreatDoorM09
namespace Go.Proofs.YtaaffebnajjfhaaGreatDoor.T
set_option linter.unusedVariables false
set_option linter.unusedSimpArgs false
open Go.RowKit
def nats (xs : List Nat) : List Int := xs.map (Nat.cast : Nat → Int)
theorem nats_len (xs : List Nat) : (nats xs).length = xs.length := by simp [nats]
def Giv.cells (g : Giv) (vf vo vl : Value) : List Value :=
  [.int .i64 g.base, .int .i64 g.ring, .int .i64 g.self, .int .i64 g.peer, .int .i64 g.own, .int .i64 g.known, .bool g.linked, vf, vo, .int .i64 g.next, .int .i64 g.tail, .int .i64 g.pc, .int .i64 g.i, .int .i64 g.left, .int .i64 g.d, .int .i64 g.answer, vl]
structure GivAt (w : World) (b : Nat) (vf vo vl : Value) (g : Giv) : Prop where
  blk : Blk w b 159 (g.cells vf vo vl)
  free : RowI w vf (nats g.free)
  out : RowI w vo (nats g.out)
  load : RowI w vl (nats g.load)
  fo : ∀ k, vf.ownBlock = some k → vo.ownBlock ≠ some k
  fl : ∀ k, vf.ownBlock = some k → vl.ownBlock ≠ some k
  ol : ∀ k, vo.ownBlock = some k → vl.ownBlock ≠ some k
def GivF (b : Nat) (vf vo vl : Value) (k : Nat) : Prop := k = b ∨ vf.ownBlock = some k ∨ vo.ownBlock = some k ∨ vl.ownBlock = some k
section
variable {w w' : World} {b : Nat} {vf vo vl : Value} {g g' : Giv}
theorem GivAt.keep {F : Nat → Prop} (h : GivAt w b vf vo vl g) (hk : Keep F w w') (hF : ∀ k, GivF b vf vo vl k → ¬ F k) : GivAt w' b vf vo vl g :=
  ⟨h.blk.keep hk (hF b (.inl rfl)), Row.keep h.free hk (fun k q => hF k (.inr (.inl q))), Row.keep h.out hk (fun k q => hF k (.inr (.inr (.inl q)))), Row.keep h.load hk (fun k q => hF k (.inr (.inr (.inr q)))), h.fo, h.fl, h.ol⟩
theorem GivAt.fresh (h : GivAt w b vf vo vl g) (hb : Below w.heap.size w w') : GivAt w' b vf vo vl g := h.keep (Keep.ofFresh hb (B := 0) (F := fun _ => False)) (fun _ _ q => q)
theorem GivAt.lt (h : GivAt w b vf vo vl g) (k : Nat) (hk : GivF b vf vo vl k) : k < w.heap.size := by
  rcases hk with rfl | e | e | e
  · exact h.blk.lt
  · exact Row.lt h.free k e
  · exact Row.lt h.out k e
  · exact Row.lt h.load k e
theorem GivAt.put (h : GivAt w b vf vo vl g) (j : Nat) (u : Value) (hc : (g.cells vf vo vl).set j u = g'.cells vf vo vl) (h1 : g'.free = g.free) (h2 : g'.out = g.out) (h3 : g'.load = g.load) : GivAt (w.setCell ⟨b, j, none⟩ u) b vf vo vl g' := by
  refine ⟨?_, ?_, ?_, ?_, h.fo, h.fl, h.ol⟩
  · rw [← hc]; exact h.blk.set j u
  · rw [h1]; exact Row.far h.free h.blk (by decide) j u
  · rw [h2]; exact Row.far h.out h.blk (by decide) j u
  · rw [h3]; exact Row.far h.load h.blk (by decide) j u
end
set_option maxRecDepth 100000 in
theorem gEpoch_any (b : Nat) (vf vo vl : Value) (g : Giv) (w : World) (h : GivAt w b vf vo vl g) :
    Calls Tryz.prog 160 #[.pointer (some ⟨b, 0, none⟩)] w fun e w' => e = .returned (.int .i64 g.ep) ∧ Below w.heap.size w w' := by
  have c4 := h.blk.cell 4
  have c5 := h.blk.cell 5
  simp only [Giv.cells, List.getElem?_cons_zero, List.getElem?_cons_succ] at c4 c5
  have HC := Lib.hid (add_any g.own g.known)
  show Calls _ _ _ _ fun e w' => e = .returned (.int .i64 (((g.own : Int) + g.known) % 65536)) ∧ _
  clear h
  go_enter Tryz.func160, Tryz.ntmps160
  go_wp2_with fail
  go_region_held3 (fun u => u.cell? ⟨b, 4, none⟩ = some (.int .i64 g.own) ∧ u.cell? ⟨b, 5, none⟩ = some (.int .i64 g.known))
    (first | exact ⟨c4, c5⟩)
    (first | (go_at_call 103; refine (HC.out _).mono ?_; rintro e w' ⟨rfl, rfl⟩))
  go_wp2_with fail
  go_ret
  exact ⟨rfl, (Below.refl _ w).drew⟩
set_option maxRecDepth 100000 in
theorem gPlace_of (b : Nat) (vf vo vl : Value) (g : Giv) (f s i a : Int) (w : World) (h : GivAt w b vf vo vl g)
    (E : Calls Tryz.prog 156 #[.agg #[.int .i64 g.base, .int .i64 g.ring], .int .i64 f, .int .i64 s, .int .i64 i] w fun e w' => e = .returned (.tuple #[.int .i64 a, .bool true]) ∧ Below w.heap.size w w') :
    Calls Tryz.prog 165 #[.pointer (some ⟨b, 0, none⟩), .int .i64 f, .int .i64 s, .int .i64 i] w fun e w' => e = .returned (.int .i64 a) ∧ Below w.heap.size w w' := by
  have c0 := h.blk.cell 0
  have c1 := h.blk.cell 1
  simp only [Giv.cells, List.getElem?_cons_zero, List.getElem?_cons_succ] at c0 c1
  have HE := Lib.hid E; clear h E
  go_enter Tryz.func165, Tryz.ntmps165
  go_wp2_with fail
  refine HE.out.mono ?_
  rintro e w1 ⟨rfl, hB⟩
  have HB := Lib.hid hB; clear hB
  go_wp2_with fail
  go_ret
  exact ⟨rfl, HB.out⟩
theorem from_below {f : Nat} {args : Array Value} {w0 w : World} {v : Ending} (hb : Below w0.heap.size w0 w) (h : Calls Tryz.prog f args w fun e w' => e = v ∧ Below w.heap.size w w') : Calls Tryz.prog f args w fun e w' => e = v ∧ Below w0.heap.size w0 w' :=
  h.mono fun e w' h => ⟨h.1, hb.trans (h.2.mono hb.size)⟩
def TchTo (w : World) (S : SocL) (n W most : Nat) (vs : Nat → Value) (c : Nat) (s : Sc) (t : Tch) (w' : World) : Prop :=
  SocTo w S n W most vs (s.tch most c t).1.m (s.tch most c t).1.q (s.tch most c t).1.g w'
theorem from_soc {f : Nat} {args : Array Value} {w0 w : World} {v : Ending} {S : SocL} {n W most : Nat} {vs : Nat → Value} {m : Nat → Nat} {q : Nat → List (Nat × Nat)} {g : Gates.Gt} (hb : Below w0.heap.size w0 w) (h : Calls Tryz.prog f args w fun e w' => e = v ∧ SocTo w S n W most vs m q g w') : Calls Tryz.prog f args w fun e w' => e = v ∧ SocTo w0 S n W most vs m q g w' :=
  h.mono fun e w' h => ⟨h.1, SocTo.from_ hb h.2⟩
theorem SocTo.block {w w' : World} {S : SocL} {n W most : Nat} {vs : Nat → Value} {m : Nat → Nat} {q : Nat → List (Nat × Nat)} {g : Gates.Gt} (h : SocTo w S n W most vs m q g w') {k : Nat} (hk : k < w.heap.size) (hF : ¬ SocF S n vs k) : w'.heap[k]? = w.heap[k]? := by
  obtain ⟨vs', h1, h2, h3⟩ := h
  exact h2.block k hk hF
theorem GivAt.soc {w w' : World} {S : SocL} {n W most b : Nat} {vf vo vl : Value} {gv : Giv} {vs : Nat → Value} {m : Nat → Nat} {q : Nat → List (Nat × Nat)} {g : Gates.Gt} (h : GivAt w b vf vo vl gv) (hd : ∀ k, GivF b vf vo vl k → ¬ SocF S n vs k) (hT : SocTo w S n W most vs m q g w') : GivAt w' b vf vo vl gv := by
  obtain ⟨vs', h1, h2, h3⟩ := hT
  exact h.keep h2 hd
theorem ahead_epoch (p : Nat) (w : World) : (nilAhead 344 115 (.pointer (some ⟨p, 0, none⟩)) "Epoch").run Tryz.prog w = .ok (some false) w := by kernel_rfl
theorem meth_epoch (p : Nat) (w : World) : (method 344 115 (.pointer (some ⟨p, 0, none⟩)) "Epoch").run Tryz.prog w = .ok (180, .pointer (some ⟨p, 0, none⟩)) w := by kernel_rfl
theorem ahead_fence (p : Nat) (w : World) : (nilAhead 344 115 (.pointer (some ⟨p, 0, none⟩)) "Fence").run Tryz.prog w = .ok (some false) w := by kernel_rfl
theorem meth_fence (p : Nat) (w : World) : (method 344 115 (.pointer (some ⟨p, 0, none⟩)) "Fence").run Tryz.prog w = .ok (181, .pointer (some ⟨p, 0, none⟩)) w := by kernel_rfl
theorem ahead_kick (p : Nat) (w : World) : (nilAhead 344 115 (.pointer (some ⟨p, 0, none⟩)) "Kick").run Tryz.prog w = .ok (some false) w := by kernel_rfl
theorem meth_kick (p : Nat) (w : World) : (method 344 115 (.pointer (some ⟨p, 0, none⟩)) "Kick").run Tryz.prog w = .ok (182, .pointer (some ⟨p, 0, none⟩)) w := by kernel_rfl
theorem ahead_load (p : Nat) (w : World) : (nilAhead 344 115 (.pointer (some ⟨p, 0, none⟩)) "Load").run Tryz.prog w = .ok (some false) w := by kernel_rfl
theorem meth_load (p : Nat) (w : World) : (method 344 115 (.pointer (some ⟨p, 0, none⟩)) "Load").run Tryz.prog w = .ok (183, .pointer (some ⟨p, 0, none⟩)) w := by kernel_rfl
theorem ahead_store (p : Nat) (w : World) : (nilAhead 344 115 (.pointer (some ⟨p, 0, none⟩)) "Store").run Tryz.prog w = .ok (some false) w := by kernel_rfl
theorem meth_store (p : Nat) (w : World) : (method 344 115 (.pointer (some ⟨p, 0, none⟩)) "Store").run Tryz.prog w = .ok (184, .pointer (some ⟨p, 0, none⟩)) w := by kernel_rfl
def port (p : Nat) : Value := .iface 115 (.pointer (some ⟨p, 0, none⟩))
end Go.Proofs.YtaaffebnajjfhaaGreatDoor.T
namespace Go.Proofs.YtaaffebnajjfhaaGreatDoor.T
set_option linter.unusedVariables false
set_option linter.unusedSimpArgs false
open Go.RowKit
set_option maxRecDepth 100000 in
theorem same_any (v1 v2 : Value) (xs ys : List Int) (hl1 : xs.length ≤ 1000) (hl2 : ys.length ≤ 1000) (w : World) (h1 : ReadI w v1 xs) (h2 : ReadI w v2 ys) :
    Calls Tryz.prog 31 #[v1, v2] w fun e w' => e = .returned (.bool (decide (xs = ys))) ∧ Below w.heap.size w w' := by
  obtain ⟨A1, c1, hv1⟩ := h1.slice
  obtain ⟨A2, c2, hv2⟩ := h2.slice
  by_cases hlen : xs.length = ys.length
  · have HR := Lib.hid (And.intro h1 (And.intro h2 (And.intro hv1 (And.intro hv2 (And.intro hlen hl1)))))
    subst hv1 hv2
    have e0 : (ys.length : Int) = (xs.length : Int) := by omega
    rw [← hlen]
    clear h1 h2 hlen hl2 e0
    go_enter Tryz.func31, Tryz.ntmps31
    go_wp2_with fail
    go_loopw [5] (fun jv u => ∃ i : Nat, i ≤ xs.length ∧ jv = .int .i64 i ∧ Below w.heap.size w u ∧ ∀ j, j < i → xs.getD j 0 = ys.getD j 0)
      (fun jv _ => xs.length - (intOf jv).toNat)
    case atStart => exact ⟨0, by omega, rfl, Below.refl _ _, fun j hj => by omega⟩
    case round =>
      obtain ⟨i, hi, rfl, hb, heq⟩ := hrel
      obtain ⟨r1, r2, q1, q2, hlen, hl⟩ := HR.out
      by_cases hin : i < xs.length
      · obtain ⟨g1, o1, k1, e1, hk1, d1⟩ := (r1.fresh hb).at_ i hin
        obtain ⟨g2, o2, k2, e2, hk2, d2⟩ := (r2.fresh hb).at_ i (by omega)
        rw [← hlen] at e2
        injection e1 with a1 _ b1
        injection e2 with a2 _ b2
        subst a1 b1 a2 b2
        have hi0 : (0 : Int) ≤ (i : Int) := by omega
        have hi1 : (i : Int) < (xs.length : Int) := by omega
        have HB := Lib.hid (And.intro hb (And.intro heq (And.intro hlen hl)))
        obtain ⟨x, hx⟩ : ∃ x, x = xs.getD i 0 := ⟨_, rfl⟩
        obtain ⟨y, hy⟩ : ∃ y, y = ys.getD i 0 := ⟨_, rfl⟩
        rw [← hx] at d1
        rw [← hy] at d2
        have HX := Lib.hid (And.intro hx hy)
        clear hb heq r1 r2 q1 q2 hx hy hlen hl
        by_cases he : x = y
        · have n0 : (x != y) = false := by simpa using he
          go_wp2_with fail
          go_region
          go_wp2_with fail
          go_roundw
          case rel =>
            obtain ⟨hb, heq, hlen, hl⟩ := HB.out
            obtain ⟨hb, heq, hlen, hl⟩ := HB.out
            refine ⟨i + 1, by omega, by go_num, hb.drew, fun j hj => ?_⟩
            by_cases ej : j = i
            · subst ej; rw [← HX.out.1, ← HX.out.2]; exact he
            · exact heq j (by omega)
          case measure => simp [intOf]; omega
        · have n0 : (x != y) = true := by simpa using he
          go_wp2_with fail
          go_region
          go_wp2_with fail
          go_ret
          refine ⟨?_, HB.out.1.drew⟩
          have : ¬ xs = ys := fun q => he (by rw [HX.out.1, HX.out.2, q])
          rw [decide_eq_false this]
          rfl
      · have hx : xs = ys := by
          apply List.ext_getElem hlen
          intro j a b
          have := heq j (by omega)
          rw [List.getD_eq_getElem?_getD, List.getD_eq_getElem?_getD, List.getElem?_eq_getElem a, List.getElem?_eq_getElem b] at this
          simpa using this
        have HB := Lib.hid (And.intro hb hx)
        have hin2 : i = xs.length := by omega
        subst hin2
        clear hb heq r1 r2 q1 q2 hx hlen hl
        go_wp2_with fail
        go_ret
        refine ⟨?_, HB.out.1⟩
        rw [decide_eq_true HB.out.2]
        rfl
  · have hne : ¬ xs = ys := fun q => hlen (by rw [q])
    have n0 : ((xs.length : Int) != (ys.length : Int)) = true := by simp; omega
    subst hv1 hv2
    clear h1 h2
    rw [decide_eq_false hne]
    go_enter Tryz.func31, Tryz.ntmps31
    go_wp2_with fail
    go_ret
    exact ⟨rfl, Below.refl _ _⟩
end Go.Proofs.YtaaffebnajjfhaaGreatDoor.T
