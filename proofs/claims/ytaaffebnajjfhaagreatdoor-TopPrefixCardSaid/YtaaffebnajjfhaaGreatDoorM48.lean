/- Texts of this proof, merged: Pfx3, Pfx4, Pfx5, Pfx6. -/
import Derived.Test.YtaaffebnajjfhaaGreatDoorM47
import Derived.Test.YtaaffebnajjfhaaGreatDoorM20
namespace Go.Proofs.YtaaffebnajjfhaaGreatDoor.T
set_option linter.unusedVariables false
set_option linter.unusedSimpArgs false
open Go.RowKit
structure DRead (w : World) (v : Value) (d : List Ent) (dl : Nat → Value) : Prop where
  row : Row w 82 8 v d.length (diaCells dl d)
  load : ∀ k, k < d.length → RowI w (dl k) (d.getD k Ent.none_).load
theorem DRead.fresh {w w' : World} {v : Value} {d : List Ent} {dl : Nat → Value} (h : DRead w v d dl) (hb : Below w.heap.size w w') : DRead w' v d dl :=
  ⟨Row.below h.row hb, fun k hk => Row.below (h.load k hk) hb⟩
theorem seenOf_take (i j L : Nat) (d : List Ent) (Ls : List Nat) (hl : Ls.length = d.length) (k : Nat) (hk : k < d.length) :
    seenOf i j L ((d.zip Ls).take (k + 1)) = seenF i j L (seenOf i j L ((d.zip Ls).take k)) (d.getD k Ent.none_, Ls.getD k 0) := by
  have hz : k < (d.zip Ls).length := by rw [List.length_zip]; omega
  unfold seenOf
  rw [List.take_succ_eq_append_getElem hz, List.foldl_append]
  simp only [List.foldl_cons, List.foldl_nil, List.getElem_zip]
  rw [List.getD_eq_getElem?_getD, List.getD_eq_getElem?_getD, List.getElem?_eq_getElem hk, List.getElem?_eq_getElem (by omega)]
  rfl
theorem seenF_len (i j L : Nat) (s : Loads × Loads × Loads) (x : Ent × Nat) : (seenF i j L s x).1.length ≤ s.1.length + 1 ∧ (seenF i j L s x).2.1.length ≤ s.2.1.length + 1 ∧ (seenF i j L s x).2.2.length ≤ s.2.2.length + 1 := by
  unfold seenF
  repeat' split
  all_goals simp
theorem seenOf_len (i j L : Nat) (d : List Ent) (Ls : List Nat) (hl : Ls.length = d.length) (k : Nat) (hk : k ≤ d.length) :
    (seenOf i j L ((d.zip Ls).take k)).1.length ≤ k ∧ (seenOf i j L ((d.zip Ls).take k)).2.1.length ≤ k ∧ (seenOf i j L ((d.zip Ls).take k)).2.2.length ≤ k := by
  induction k with
  | zero => simp [seenOf]
  | succ k ih =>
    rw [seenOf_take i j L d Ls hl k (by omega)]
    have h1 := ih (by omega)
    have h2 := seenF_len i j L (seenOf i j L ((d.zip Ls).take k)) (d.getD k Ent.none_, Ls.getD k 0)
    omega
theorem seenF_load (i j L : Nat) (s : Loads × Loads × Loads) (x : Ent × Nat) (hx : x.1.load.length ≤ 1000) (h : ∀ l, l ∈ s.1 ∨ l ∈ s.2.1 ∨ l ∈ s.2.2 → l.length ≤ 1000) : ∀ l, l ∈ (seenF i j L s x).1 ∨ l ∈ (seenF i j L s x).2.1 ∨ l ∈ (seenF i j L s x).2.2 → l.length ≤ 1000 := by
  unfold seenF
  repeat' split
  all_goals
    intro l hl
    have h1 := h l
    by_cases e : l = x.1.load
    · rw [e]; exact hx
    · grind
theorem seenOf_load (i j L : Nat) (d : List Ent) (Ls : List Nat) (hl : Ls.length = d.length) (hd : ∀ k, k < d.length → (d.getD k Ent.none_).load.length ≤ 1000) (k : Nat) (hk : k ≤ d.length) :
    ∀ l, l ∈ (seenOf i j L ((d.zip Ls).take k)).1 ∨ l ∈ (seenOf i j L ((d.zip Ls).take k)).2.1 ∨ l ∈ (seenOf i j L ((d.zip Ls).take k)).2.2 → l.length ≤ 1000 := by
  induction k with
  | zero => simp [seenOf]
  | succ k ih =>
    rw [seenOf_take i j L d Ls hl k (by omega)]
    exact seenF_load i j L _ _ (hd k (by omega)) (ih (by omega))
theorem seenF_none {i j L : Nat} {s : Loads × Loads × Loads} {e : Ent} {l : Nat} (h : l ≠ L ∨ ¬ (e.kind = 1 ∧ e.core = i ∧ e.peer = j ∧ e.fin ≠ 0 ∧ e.err = 0) ∧ ¬ (e.kind = 1 ∧ e.core = i ∧ e.peer = j ∧ (e.fin = 0 ∨ e.err = 8)) ∧ ¬ (e.kind = 2 ∧ e.core = j ∧ e.peer = i ∧ e.fin ≠ 0 ∧ e.err = 0)) : seenF i j L s (e, l) = s := by
  unfold seenF
  by_cases h0 : l ≠ L
  · rw [if_pos h0]
  · have h := h.resolve_left h0
    rw [if_neg h0, if_neg h.1, if_neg h.2.1, if_neg h.2.2]
theorem seenF_sent {i j L : Nat} {s : Loads × Loads × Loads} {e : Ent} {l : Nat} (h0 : l = L) (h : e.kind = 1 ∧ e.core = i ∧ e.peer = j ∧ e.fin ≠ 0 ∧ e.err = 0) : seenF i j L s (e, l) = (s.1 ++ [e.load], [], s.2.2) := by
  unfold seenF
  rw [if_neg (by simpa using h0), if_pos h]
theorem seenF_more {i j L : Nat} {s : Loads × Loads × Loads} {e : Ent} {l : Nat} (h0 : l = L) (h1 : ¬ (e.kind = 1 ∧ e.core = i ∧ e.peer = j ∧ e.fin ≠ 0 ∧ e.err = 0)) (h : e.kind = 1 ∧ e.core = i ∧ e.peer = j ∧ (e.fin = 0 ∨ e.err = 8)) : seenF i j L s (e, l) = (s.1, s.2.1 ++ [e.load], s.2.2) := by
  unfold seenF
  rw [if_neg (by simpa using h0), if_neg h1, if_pos h]
theorem seenF_got {i j L : Nat} {s : Loads × Loads × Loads} {e : Ent} {l : Nat} (h0 : l = L) (h1 : ¬ (e.kind = 1 ∧ e.core = i ∧ e.peer = j ∧ e.fin ≠ 0 ∧ e.err = 0)) (h2 : ¬ (e.kind = 1 ∧ e.core = i ∧ e.peer = j ∧ (e.fin = 0 ∨ e.err = 8))) (h : e.kind = 2 ∧ e.core = j ∧ e.peer = i ∧ e.fin ≠ 0 ∧ e.err = 0) : seenF i j L s (e, l) = (s.1, s.2.1, s.2.2 ++ [e.load]) := by
  unfold seenF
  rw [if_neg (by simpa using h0), if_neg h1, if_neg h2, if_pos h]
theorem LoadsAt.at_ {w : World} {v : Value} {vs : List Value} {ls : Loads} (h : LoadsAt w v vs ls) {k : Nat} (hk : k < ls.length) : ∃ g c A q, v = .slice (some ⟨g, 0, none⟩) ls.length c ∧ w.cell? ⟨g, k, none⟩ = some (.slice A (ls.getD k []).length q) ∧ RowI w (.slice A (ls.getD k []).length q) (ls.getD k []) := by
  obtain ⟨g, c, hv, hc, -, hcell⟩ := h.row.cells (by omega)
  have h1 := hcell k (by omega)
  have hl := h.load k hk
  have hlen := h.len
  obtain ⟨A, q, e, -, -⟩ := Row.slice hl
  refine ⟨g, c, A, q, hv, ?_, by rw [← e]; exact hl⟩
  rw [h1.1, ← e, List.getD_eq_getElem?_getD, List.getElem?_eq_getElem (by omega), Option.getD_some]
set_option maxHeartbeats 4000000 in
set_option maxRecDepth 100000 in
theorem pfx_any (w : World) (v lv : Value) (d : List Ent) (dl : Nat → Value) (Ls : List Nat) (i j L : Nat) (hD : DRead w v d dl) (hlen : Ls.length = d.length) (hd : d.length ≤ 1000) (hs : ∀ k, k < d.length → (d.getD k Ent.none_).load.length ≤ 1000) (hL : ReadI w lv (nats Ls))
    (hb : beginning (seenOf i j L (d.zip Ls)).1 (seenOf i j L (d.zip Ls)).2.1 (seenOf i j L (d.zip Ls)).2.2) :
    Calls Tryz.prog 10 #[v, lv, .int .i64 i, .int .i64 j, .int .i64 L] w fun e w' => e = .returned (.bool true) ∧ Below w.heap.size w w' := by
  obtain ⟨A0, q0, hv, -, -⟩ := Row.slice hD.row
  obtain ⟨B0, r0, hlv⟩ := hL.slice
  rw [nats_len, hlen] at hlv
  subst hv hlv
  have HD := Lib.hid hD
  have HL := Lib.hid hL
  have HS := Lib.hid (And.intro hlen (And.intro hs hb))
  clear hD hL hlen hs hb
  go_enter Tryz.func10, Tryz.ntmps10
  go_wp2_with fail
  go_loopw [11, 12, 13, 23] (fun vs vm vg jv u => ∃ k : Nat, k ≤ d.length ∧ jv = .int .i64 k ∧ Tri w u vs vm vg (seenOf i j L ((d.zip Ls).take k)))
    (fun _ _ _ jv _ => d.length - (intOf jv).toNat)
  case atStart => exact ⟨0, by omega, rfl, Tri.first w⟩
  case round =>
    obtain ⟨k, hk, rfl, hT⟩ := hrel
    obtain ⟨hlen, hs, hb⟩ := HS.out
    by_cases hin : k < d.length
    · obtain ⟨g, off, c, hv, hc1, hc2, hcell⟩ := Row.cells (HD.out.fresh hT.b).row (by omega)
      injection hv with hA hzz hq
      clear hzz
      subst hA hq
      have hx : ∀ r, r < 8 → wr.cell? ⟨g, off + k * 8 + r, none⟩ = (entCells (d.getD k Ent.none_) (dl k))[r]? := fun r hr => by
        have := (hcell (k * 8 + r) (by omega)).1
        rw [Nat.add_assoc, this, diaCells_get _ _ hin hr]
      obtain ⟨gl, ol, cl, hlv, hcl, hlc⟩ := (HL.out.fresh hT.b).at_ k (by rw [nats_len]; omega)
      injection hlv with hB hzz hr
      clear hzz
      subst hB hr
      have hld := (HD.out.fresh hT.b).load k hin
      obtain ⟨Ai, qi, hdi, -, -⟩ := Row.slice hld
      have hst := seenOf_take i j L d Ls hlen k hin
      have hsl := seenOf_len i j L d Ls hlen k (by omega)
      generalize seenOf i j L ((d.zip Ls).take k) = sk at *
      obtain ⟨en, hen⟩ : ∃ en, en = d.getD k Ent.none_ := ⟨_, rfl⟩
      rw [← hen] at hx hdi hst hld
      have hlk : (nats Ls).getD k 0 = ((Ls.getD k 0 : Nat) : Int) := by
        unfold nats
        rw [List.getD_eq_getElem?_getD, List.getElem?_map, List.getD_eq_getElem?_getD, List.getElem?_eq_getElem (by omega)]
        rfl
      rw [hlk] at hlc
      obtain ⟨lk, hlk2⟩ : ∃ lk, lk = Ls.getD k 0 := ⟨_, rfl⟩
      rw [← hlk2] at hst hlc
      have x0 := hx 0 (by omega)
      have x1 := hx 1 (by omega)
      have x2 := hx 2 (by omega)
      have x3 := hx 3 (by omega)
      have x4 := hx 4 (by omega)
      have x5 := hx 5 (by omega)
      have x6 := hx 6 (by omega)
      have x7 := hx 7 (by omega)
      rw [hdi] at x0 x1 x2 x3 x4 x5 x6 x7 hld
      simp only [entCells, List.getElem?_cons_zero, List.getElem?_cons_succ, Nat.add_zero] at x0 x1 x2 x3 x4 x5 x6 x7
      have hi0 : (0 : Int) ≤ (k : Int) := by omega
      have hi1 : (k : Int) < (d.length : Int) := by omega
      obtain ⟨⟨As, cs, e1⟩, ⟨Am, cm, e2⟩, ⟨Ag, cg, e3⟩⟩ := hT.rows
      subst e1 e2 e3
      obtain ⟨wB, hwB⟩ : ∃ wB, wB = wr.alloc (.cells #[.int .i64 (en.core : Int), .int .i64 (en.peer : Int), .int .i64 (en.kind : Int), .int .i64 (en.bgn : Int), .int .i64 (en.fin : Int), .int .i64 en.err, .slice Ai en.load.length qi, .int .i64 en.handle] 82) := ⟨_, rfl⟩
      have hba : Below wr.heap.size wr wB := by rw [hwB]; exact (Below.refl _ _).alloc (Nat.le_refl _) _
      have hkB : Blk wB wr.heap.size 82 [.int .i64 (en.core : Int), .int .i64 (en.peer : Int), .int .i64 (en.kind : Int), .int .i64 (en.bgn : Int), .int .i64 (en.fin : Int), .int .i64 en.err, .slice Ai en.load.length qi, .int .i64 en.handle] := by rw [hwB]; exact Blk.new wr 82 _
      have hlcB : wB.cell? ⟨gl, ol + k, none⟩ = some (.int .i64 (lk : Int)) := by rw [hwB]; exact cell_alloc hlc
      have y0 := hkB.cell 0
      have y1 := hkB.cell 1
      have y2 := hkB.cell 2
      have y4 := hkB.cell 4
      have y5 := hkB.cell 5
      have y6 := hkB.cell 6
      simp only [List.getElem?_cons_zero, List.getElem?_cons_succ] at y0 y1 y2 y4 y5 y6
      have hTB := hT.fresh hba
      have hldB : RowI wB (.slice Ai en.load.length qi) en.load := Row.below hld hba
      have HST := Lib.hid hst
      have HTB := Lib.hid (And.intro hTB (And.intro hldB hsl))
      have HWB := Lib.hid hwB
      clear hwB hba hkB hx hcell hT hen hlk hlk2 hdi hst hTB hldB hld hsl hc1 hc2 hcl hlen hs hb
      go_upto_region 5 with fail
      rw [← HWB.out]
      clear x0 x1 x2 x3 x4 x5 x6 x7 hlc
      by_cases hlL : lk = L
      · have nL : ((lk : Int) != (L : Int)) = false := by simp; omega
        have HhlL := Lib.hid hlL
        clear hlL
        by_cases k1 : en.kind = 1
        · have bk1 : ((en.kind : Int) == 1) = true := by rw [beq_iff_eq]; omega
          have Hk1 := Lib.hid k1
          clear k1
          by_cases c1 : en.core = i
          · have bc1 : ((en.core : Int) == (i : Int)) = true := by rw [beq_iff_eq]; omega
            have Hc1 := Lib.hid c1
            clear c1
            by_cases p1 : en.peer = j
            · have bp1 : ((en.peer : Int) == (j : Int)) = true := by rw [beq_iff_eq]; omega
              have Hp1 := Lib.hid p1
              clear p1
              by_cases f1 : en.fin = 0
              · have bf1 : ((en.fin : Int) != 0) = false := by simp; omega
                have bf0 : ((en.fin : Int) == 0) = true := by rw [beq_iff_eq]; omega
                have Hf1 := Lib.hid f1
                clear f1
                obtain ⟨A7, q7, w7, r7, t7⟩ := Tri.more HTB.out.1 (by have := HTB.out.2.2; omega) HTB.out.2.1
                have e : seenF i j L sk (en, lk) = (sk.1, sk.2.1 ++ [en.load], sk.2.2) := seenF_more (by have q0 := HhlL.out; have q1 := Hk1.out; have q2 := Hc1.out; have q3 := Hp1.out; have q4 := Hf1.out; omega) (by have q0 := HhlL.out; have q1 := Hk1.out; have q2 := Hc1.out; have q3 := Hp1.out; have q4 := Hf1.out; omega) (by have q0 := HhlL.out; have q1 := Hk1.out; have q2 := Hc1.out; have q3 := Hp1.out; have q4 := Hf1.out; omega)
                rw [← e, ← HST.out] at t7
                have HR := Lib.hid r7
                have HF := Lib.hid t7
                clear r7 t7 e
                go_wp2_with (at_builtin; refine app_run_list rfl _ _ 41 41 rfl rfl rfl rfl HR.out ?_)
                go_roundw
                case rel => exact ⟨k + 1, by omega, by go_num, HF.out⟩
                case measure => simp [intOf]; omega
              · have bf1 : ((en.fin : Int) != 0) = true := by rw [bne_iff_ne]; omega
                have bf0 : ((en.fin : Int) == 0) = false := by rw [beq_eq_false_iff_ne]; omega
                have Hf1 := Lib.hid f1
                clear f1
                by_cases e1 : en.err = 0
                · have be1 : (en.err == 0) = true := by rw [beq_iff_eq]; omega
                  have He1 := Lib.hid e1
                  clear e1
                  obtain ⟨A7, q7, w7, r7, t7⟩ := Tri.sent HTB.out.1 (by have := HTB.out.2.2; omega) HTB.out.2.1
                  have e : seenF i j L sk (en, lk) = (sk.1 ++ [en.load], [], sk.2.2) := seenF_sent (by have q0 := HhlL.out; have q1 := Hk1.out; have q2 := Hc1.out; have q3 := Hp1.out; have q4 := Hf1.out; have q5 := He1.out; omega) (by have q0 := HhlL.out; have q1 := Hk1.out; have q2 := Hc1.out; have q3 := Hp1.out; have q4 := Hf1.out; have q5 := He1.out; omega)
                  rw [← e, ← HST.out] at t7
                  have HR := Lib.hid r7
                  have HF := Lib.hid t7
                  clear r7 t7 e
                  go_wp2_with (at_builtin; refine app_run_list rfl _ _ 41 41 rfl rfl rfl rfl HR.out ?_)
                  go_roundw
                  case rel => exact ⟨k + 1, by omega, by go_num, HF.out⟩
                  case measure => simp [intOf]; omega
                · have be1 : (en.err == 0) = false := by rw [beq_eq_false_iff_ne]; omega
                  have He1 := Lib.hid e1
                  clear e1
                  by_cases e8 : en.err = 8
                  · have be8 : (en.err == 8) = true := by rw [beq_iff_eq]; omega
                    have He8 := Lib.hid e8
                    clear e8
                    obtain ⟨A7, q7, w7, r7, t7⟩ := Tri.more HTB.out.1 (by have := HTB.out.2.2; omega) HTB.out.2.1
                    have e : seenF i j L sk (en, lk) = (sk.1, sk.2.1 ++ [en.load], sk.2.2) := seenF_more (by have q0 := HhlL.out; have q1 := Hk1.out; have q2 := Hc1.out; have q3 := Hp1.out; have q4 := Hf1.out; have q5 := He1.out; have q6 := He8.out; omega) (by have q0 := HhlL.out; have q1 := Hk1.out; have q2 := Hc1.out; have q3 := Hp1.out; have q4 := Hf1.out; have q5 := He1.out; have q6 := He8.out; omega) (by have q0 := HhlL.out; have q1 := Hk1.out; have q2 := Hc1.out; have q3 := Hp1.out; have q4 := Hf1.out; have q5 := He1.out; have q6 := He8.out; omega)
                    rw [← e, ← HST.out] at t7
                    have HR := Lib.hid r7
                    have HF := Lib.hid t7
                    clear r7 t7 e
                    go_wp2_with (at_builtin; refine app_run_list rfl _ _ 41 41 rfl rfl rfl rfl HR.out ?_)
                    go_roundw
                    case rel => exact ⟨k + 1, by omega, by go_num, HF.out⟩
                    case measure => simp [intOf]; omega
                  · have be8 : (en.err == 8) = false := by rw [beq_eq_false_iff_ne]; omega
                    have He8 := Lib.hid e8
                    clear e8
                    have bk2 : ((en.kind : Int) == 2) = false := by have := Hk1.out; rw [beq_eq_false_iff_ne]; omega
                    go_wp2_with fail
                    go_roundw
                    case rel =>
                      refine ⟨k + 1, by omega, by go_num, ?_⟩
                      have e : seenF i j L sk (en, lk) = sk := seenF_none (by have q0 := HhlL.out; have q1 := Hk1.out; have q2 := Hc1.out; have q3 := Hp1.out; have q4 := Hf1.out; have q5 := He1.out; have q6 := He8.out; omega)
                      rw [HST.out, e]
                      exact HTB.out.1
                    case measure => simp [intOf]; omega
            · have bp1 : ((en.peer : Int) == (j : Int)) = false := by rw [beq_eq_false_iff_ne]; omega
              have Hp1 := Lib.hid p1
              clear p1
              have bk2 : ((en.kind : Int) == 2) = false := by have := Hk1.out; rw [beq_eq_false_iff_ne]; omega
              go_wp2_with fail
              go_roundw
              case rel =>
                refine ⟨k + 1, by omega, by go_num, ?_⟩
                have e : seenF i j L sk (en, lk) = sk := seenF_none (by have q0 := HhlL.out; have q1 := Hk1.out; have q2 := Hc1.out; have q3 := Hp1.out; omega)
                rw [HST.out, e]
                exact HTB.out.1
              case measure => simp [intOf]; omega
          · have bc1 : ((en.core : Int) == (i : Int)) = false := by rw [beq_eq_false_iff_ne]; omega
            have Hc1 := Lib.hid c1
            clear c1
            have bk2 : ((en.kind : Int) == 2) = false := by have := Hk1.out; rw [beq_eq_false_iff_ne]; omega
            go_wp2_with fail
            go_roundw
            case rel =>
              refine ⟨k + 1, by omega, by go_num, ?_⟩
              have e : seenF i j L sk (en, lk) = sk := seenF_none (by have q0 := HhlL.out; have q1 := Hk1.out; have q2 := Hc1.out; omega)
              rw [HST.out, e]
              exact HTB.out.1
            case measure => simp [intOf]; omega
        · have bk1 : ((en.kind : Int) == 1) = false := by rw [beq_eq_false_iff_ne]; omega
          have Hk1 := Lib.hid k1
          clear k1
          by_cases k2 : en.kind = 2
          · have bk2 : ((en.kind : Int) == 2) = true := by rw [beq_iff_eq]; omega
            have Hk2 := Lib.hid k2
            clear k2
            by_cases c2 : en.core = j
            · have bc2 : ((en.core : Int) == (j : Int)) = true := by rw [beq_iff_eq]; omega
              have Hc2 := Lib.hid c2
              clear c2
              by_cases p2 : en.peer = i
              · have bp2 : ((en.peer : Int) == (i : Int)) = true := by rw [beq_iff_eq]; omega
                have Hp2 := Lib.hid p2
                clear p2
                by_cases f2 : en.fin = 0
                · have bf2 : ((en.fin : Int) != 0) = false := by simp; omega
                  have Hf2 := Lib.hid f2
                  clear f2
                  go_wp2_with fail
                  go_roundw
                  case rel =>
                    refine ⟨k + 1, by omega, by go_num, ?_⟩
                    have e : seenF i j L sk (en, lk) = sk := seenF_none (by have q0 := HhlL.out; have q1 := Hk1.out; have q2 := Hk2.out; have q3 := Hc2.out; have q4 := Hp2.out; have q5 := Hf2.out; omega)
                    rw [HST.out, e]
                    exact HTB.out.1
                  case measure => simp [intOf]; omega
                · have bf2 : ((en.fin : Int) != 0) = true := by rw [bne_iff_ne]; omega
                  have Hf2 := Lib.hid f2
                  clear f2
                  by_cases e2 : en.err = 0
                  · have be2 : (en.err == 0) = true := by rw [beq_iff_eq]; omega
                    have He2 := Lib.hid e2
                    clear e2
                    obtain ⟨A7, q7, w7, r7, t7⟩ := Tri.got HTB.out.1 (by have := HTB.out.2.2; omega) HTB.out.2.1
                    have e : seenF i j L sk (en, lk) = (sk.1, sk.2.1, sk.2.2 ++ [en.load]) := seenF_got (by have q0 := HhlL.out; have q1 := Hk1.out; have q2 := Hk2.out; have q3 := Hc2.out; have q4 := Hp2.out; have q5 := Hf2.out; have q6 := He2.out; omega) (by have q0 := HhlL.out; have q1 := Hk1.out; have q2 := Hk2.out; have q3 := Hc2.out; have q4 := Hp2.out; have q5 := Hf2.out; have q6 := He2.out; omega) (by have q0 := HhlL.out; have q1 := Hk1.out; have q2 := Hk2.out; have q3 := Hc2.out; have q4 := Hp2.out; have q5 := Hf2.out; have q6 := He2.out; omega) (by have q0 := HhlL.out; have q1 := Hk1.out; have q2 := Hk2.out; have q3 := Hc2.out; have q4 := Hp2.out; have q5 := Hf2.out; have q6 := He2.out; omega)
                    rw [← e, ← HST.out] at t7
                    have HR := Lib.hid r7
                    have HF := Lib.hid t7
                    clear r7 t7 e
                    go_wp2_with (at_builtin; refine app_run_list rfl _ _ 41 41 rfl rfl rfl rfl HR.out ?_)
                    go_roundw
                    case rel => exact ⟨k + 1, by omega, by go_num, HF.out⟩
                    case measure => simp [intOf]; omega
                  · have be2 : (en.err == 0) = false := by rw [beq_eq_false_iff_ne]; omega
                    have He2 := Lib.hid e2
                    clear e2
                    go_wp2_with fail
                    go_roundw
                    case rel =>
                      refine ⟨k + 1, by omega, by go_num, ?_⟩
                      have e : seenF i j L sk (en, lk) = sk := seenF_none (by have q0 := HhlL.out; have q1 := Hk1.out; have q2 := Hk2.out; have q3 := Hc2.out; have q4 := Hp2.out; have q5 := Hf2.out; have q6 := He2.out; omega)
                      rw [HST.out, e]
                      exact HTB.out.1
                    case measure => simp [intOf]; omega
              · have bp2 : ((en.peer : Int) == (i : Int)) = false := by rw [beq_eq_false_iff_ne]; omega
                have Hp2 := Lib.hid p2
                clear p2
                go_wp2_with fail
                go_roundw
                case rel =>
                  refine ⟨k + 1, by omega, by go_num, ?_⟩
                  have e : seenF i j L sk (en, lk) = sk := seenF_none (by have q0 := HhlL.out; have q1 := Hk1.out; have q2 := Hk2.out; have q3 := Hc2.out; have q4 := Hp2.out; omega)
                  rw [HST.out, e]
                  exact HTB.out.1
                case measure => simp [intOf]; omega
            · have bc2 : ((en.core : Int) == (j : Int)) = false := by rw [beq_eq_false_iff_ne]; omega
              have Hc2 := Lib.hid c2
              clear c2
              go_wp2_with fail
              go_roundw
              case rel =>
                refine ⟨k + 1, by omega, by go_num, ?_⟩
                have e : seenF i j L sk (en, lk) = sk := seenF_none (by have q0 := HhlL.out; have q1 := Hk1.out; have q2 := Hk2.out; have q3 := Hc2.out; omega)
                rw [HST.out, e]
                exact HTB.out.1
              case measure => simp [intOf]; omega
          · have bk2 : ((en.kind : Int) == 2) = false := by rw [beq_eq_false_iff_ne]; omega
            have Hk2 := Lib.hid k2
            clear k2
            go_wp2_with fail
            go_roundw
            case rel =>
              refine ⟨k + 1, by omega, by go_num, ?_⟩
              have e : seenF i j L sk (en, lk) = sk := seenF_none (by have q0 := HhlL.out; have q1 := Hk1.out; have q2 := Hk2.out; omega)
              rw [HST.out, e]
              exact HTB.out.1
            case measure => simp [intOf]; omega
      · have nL : ((lk : Int) != (L : Int)) = true := by rw [bne_iff_ne]; omega
        have HhlL := Lib.hid hlL
        clear hlL
        go_wp2_with fail
        go_roundw
        case rel =>
          refine ⟨k + 1, by omega, by go_num, ?_⟩
          have e : seenF i j L sk (en, lk) = sk := seenF_none (by have q0 := HhlL.out; omega)
          rw [HST.out, e]
          exact HTB.out.1
        case measure => simp [intOf]; omega
    · have hin2 : k = d.length := by omega
      have hz : (d.zip Ls).take k = d.zip Ls := List.take_of_length_le (by rw [List.length_zip]; omega)
      have hsl := seenOf_len i j L d Ls hlen k (by omega)
      have hsd := seenOf_load i j L d Ls hlen hs k (by omega)
      rw [hz] at hT hsl hsd
      generalize seenOf i j L (d.zip Ls) = s at *
      obtain ⟨hB0, ⟨ls, h1⟩, ⟨lm, h2⟩, ⟨lg, h3⟩, -, -, -, -⟩ := hT
      obtain ⟨sent, more, got⟩ := s
      simp only at h1 h2 h3 hb hsl hsd
      obtain ⟨As, cs, e1⟩ := h1.row.slice
      obtain ⟨Am, cm, e2⟩ := h2.row.slice
      obtain ⟨Ag, cg, e3⟩ := h3.row.slice
      subst e1 e2 e3
      have HT := Lib.hid (And.intro hB0 (And.intro h1 (And.intro h2 h3)))
      have HZ := Lib.hid (And.intro hb hsd)
      obtain ⟨q1, q2, q3⟩ := hsl
      clear hB0 h1 h2 h3 hb hsd hs hlen hz
      go_wp2_with fail
      obtain ⟨wo, rfl⟩ : ∃ wo : World, wo = wr := ⟨_, rfl⟩
      go_loopw [130] (fun jv u => ∃ m : Nat, m ≤ got.length ∧ jv = .int .i64 m ∧ Below wo.heap.size wo u)
        (fun jv _ => got.length - (intOf jv).toNat)
      case atStart => exact ⟨0, by omega, rfl, Below.refl _ _⟩
      case round =>
        obtain ⟨m, hm, rfl, hbm⟩ := hrel
        by_cases hin : m < got.length
        · have h1 := HT.out.2.1
          have h2 := HT.out.2.2.1
          have h3 := HT.out.2.2.2
          obtain ⟨hb, hsd⟩ := HZ.out
          obtain ⟨gg, cg2, A, q, hv, hcg, hrg⟩ := (h3.fresh hbm).at_ hin
          injection hv with hA hzz hq
          clear hzz
          subst hA hq
          have hbe := hb m hin
          have hlx : (got.getD m []).length ≤ 1000 := by
            refine hsd _ (.inr (.inr ?_))
            rw [List.getD_eq_getElem?_getD, List.getElem?_eq_getElem hin]
            exact List.getElem_mem _
          obtain ⟨x, hxx⟩ : ∃ x, x = got.getD m [] := ⟨_, rfl⟩
          rw [← hxx] at hcg hrg hbe hlx
          have hi0 : (0 : Int) ≤ (m : Int) := by omega
          have hi1 : (m : Int) < (got.length : Int) := by omega
          by_cases hms : m < sent.length
          · rw [if_pos hms] at hbe
            obtain ⟨gs, cs2, A2, q2, hv2, hcs, hrs⟩ := (h1.fresh hbm).at_ hms
            injection hv2 with hA hzz hq
            clear hzz
            subst hA hq
            have hly : (sent.getD m []).length ≤ 1000 := by
              refine hsd _ (.inl ?_)
              rw [List.getD_eq_getElem?_getD, List.getElem?_eq_getElem hms]
              exact List.getElem_mem _
            have hS := same_any _ _ x (sent.getD m []) hlx hly wr hrg.read hrs.read
            rw [decide_eq_true hbe] at hS
            obtain ⟨y, hyy⟩ : ∃ y, y = sent.getD m [] := ⟨_, rfl⟩
            rw [← hyy] at hS hcs
            have hj1 : (m : Int) < (sent.length : Int) := by omega
            have HSA := Lib.hid hS
            have HBM := Lib.hid hbm
            clear hS hbm hb hsd h1 h2 h3 hbe hlx hly hrg hrs hxx hyy hms hm
            go_wp2_with fail
            refine HSA.out.mono ?_
            rintro e w' ⟨rfl, hb'⟩
            have HB2 := Lib.hid (HBM.out.trans (hb'.mono HBM.out.size))
            clear hb'
            go_wp2_with fail
            go_roundw
            case rel => exact ⟨m + 1, by omega, by go_num, HB2.out⟩
            case measure => simp [intOf]; omega
          · rw [if_neg hms] at hbe
            have hj1 : ¬ (m : Int) < (sent.length : Int) := by omega
            have hj2 : (m : Int) ≤ (sent.length : Int) := by omega
            have HBE := Lib.hid hbe.2
            have HBM := Lib.hid hbm
            have HRG := Lib.hid (And.intro hrg hlx)
            clear hbm hb hsd h1 h2 h3 hbe hlx hrg hxx hms
            go_wp2_with fail
            obtain ⟨wo2, rfl⟩ : ∃ wo2 : World, wo2 = wr := ⟨_, rfl⟩
            go_loopw [18, 148] (fun iv jv u => ∃ n : Nat, n ≤ more.length ∧ iv = .bool (decide (x ∈ more.take n)) ∧ jv = .int .i64 n ∧ Below wo2.heap.size wo2 u)
              (fun _ jv _ => more.length - (intOf jv).toNat)
            case atStart => exact ⟨0, by omega, by simp, rfl, Below.refl _ _⟩
            case round =>
              obtain ⟨n, hn, rfl, rfl, hbn⟩ := hrel
              by_cases hnn : n < more.length
              · have h2 := HT.out.2.2.1
                obtain ⟨gm, cm2, A2, q2, hv2, hcm, hrm⟩ := ((h2.fresh HBM.out).fresh hbn).at_ hnn
                injection hv2 with hA hzz hq
                clear hzz
                subst hA hq
                have hly : (more.getD n []).length ≤ 1000 := by
                  refine HZ.out.2 _ (.inr (.inl ?_))
                  rw [List.getD_eq_getElem?_getD, List.getElem?_eq_getElem hnn]
                  exact List.getElem_mem _
                have htk : more.take (n + 1) = more.take n ++ [more.getD n []] := by
                  rw [List.take_succ_eq_append_getElem hnn, List.getD_eq_getElem?_getD, List.getElem?_eq_getElem hnn]
                  rfl
                have hS := same_any _ _ x (more.getD n []) HRG.out.2 hly wr (HRG.out.1.read.fresh hbn) hrm.read
                obtain ⟨y, hyy⟩ : ∃ y, y = more.getD n [] := ⟨_, rfl⟩
                rw [← hyy] at hS hcm htk
                have hn0 : (0 : Int) ≤ (n : Int) := by omega
                have hn1 : (n : Int) < (more.length : Int) := by omega
                have HSA := Lib.hid hS
                have HBN := Lib.hid (And.intro hbn htk)
                clear hS hbn hly hrm hyy htk h2
                by_cases hx : x ∈ more.take n
                · rw [decide_eq_true hx]
                  have HX := Lib.hid hx
                  clear hx
                  go_wp2_with fail
                  go_roundw
                  case rel =>
                    refine ⟨n + 1, by omega, ?_, by go_num, HBN.out.1⟩
                    rw [HBN.out.2, decide_eq_true (List.mem_append_left _ HX.out)]
                  case measure => simp [intOf]; omega
                · rw [decide_eq_false hx]
                  have HX := Lib.hid hx
                  clear hx
                  go_wp2_with fail
                  refine HSA.out.mono ?_
                  rintro e w' ⟨rfl, hb'⟩
                  have HB2 := Lib.hid (HBN.out.1.trans (hb'.mono HBN.out.1.size))
                  clear hb'
                  by_cases hxy : x = y
                  · rw [decide_eq_true hxy]
                    have HXY := Lib.hid hxy
                    clear hxy
                    go_wp2_with fail
                    go_roundw
                    case rel =>
                      refine ⟨n + 1, by omega, ?_, by go_num, HB2.out⟩
                      rw [HBN.out.2, decide_eq_true (List.mem_append_right _ (by rw [HXY.out]; exact List.mem_singleton_self _))]
                    case measure => simp [intOf]; omega
                  · rw [decide_eq_false hxy]
                    have HXY := Lib.hid hxy
                    clear hxy
                    go_wp2_with fail
                    go_roundw
                    case rel =>
                      refine ⟨n + 1, by omega, ?_, by go_num, HB2.out⟩
                      rw [HBN.out.2, decide_eq_false (fun q => (List.mem_append.1 q).elim HX.out (fun q => HXY.out (List.mem_singleton.1 q)))]
                    case measure => simp [intOf]; omega
              · have hn2 : n = more.length := by omega
                subst hn2
                have hx : x ∈ more.take more.length := by rw [List.take_length]; exact HBE.out
                rw [decide_eq_true hx]
                have HB2 := Lib.hid (HBM.out.trans (hbn.mono HBM.out.size))
                clear hbn hx
                go_wp2_with fail
                go_roundw
                case rel => exact ⟨m + 1, by omega, by go_num, HB2.out⟩
                case measure => simp [intOf]; omega
        · have hm2 : m = got.length := by omega
          subst hm2
          have HB2 := Lib.hid (HT.out.1.trans (hbm.mono HT.out.1.size))
          clear hbm
          go_wp2_with fail
          go_ret
          exact ⟨rfl, HB2.out⟩
end Go.Proofs.YtaaffebnajjfhaaGreatDoor.T
namespace Go.Proofs.YtaaffebnajjfhaaGreatDoor.T
set_option linter.unusedVariables false
set_option linter.unusedSimpArgs false
open Go.RowKit
theorem ik_push (W : World) (v : Value) (n : Nat) (xs : List Value) (hn : n ≤ 1000) (h : RowZ W 3 1 v n xs) (x : Int) :
    ∃ A7 q7 w7, (Builtin.append_ #[31, 31] 31 #[v, .slice (some ⟨W.heap.size, 0, none⟩) 1 1]).run Tryz.prog (W.alloc (.cells #[.int .i64 x] 3)).drew = .ok (.slice A7 (n + 1) q7) w7 ∧
      RowZ w7 3 1 (.slice A7 (n + 1) q7) (n + 1) (xs ++ [.int .i64 x]) ∧ Keep (fun k => v.ownBlock = some k) W w7 ∧ ∀ k, (Value.slice A7 (n + 1) q7).ownBlock = some k → v.ownBlock = some k ∨ W.heap.size ≤ k := by
  obtain ⟨i0, hi, hzz⟩ := Option.map_eq_some_iff.1 info3
  simp only [Prod.mk.injEq] at hzz
  obtain ⟨hz0, hz1, hz2⟩ := hzz
  have hb : Below W.heap.size W (W.alloc (.cells #[.int .i64 x] 3)).drew := ((Below.refl _ _).alloc (Nat.le_refl _) _).drew
  have n6 : Blk (W.alloc (.cells #[.int .i64 x] 3)).drew W.heap.size 3 [.int .i64 x] := (Blk.new W 3 [.int .i64 x]).drew
  obtain ⟨v7, w7, h1, h2, h3, h4⟩ := RowZ.append (P := Tryz.prog) (W.alloc (.cells #[.int .i64 x] 3)).drew 31 31 3 i0 _ 1 8 under31 hi hz0 hz1 hz2 rfl (by decide) _ _ _ (h.move fun k q => hb.block k (h.lt k q)) ⟨W.heap.size, 0, none⟩ 1 1 [.int .i64 x] rfl
    (by intro j u hu; rw [add_lit, Nat.zero_add]; exact (n6.cell j).trans hu) (by intro u hu; rw [List.mem_singleton.1 hu]; rfl) (by unfold maxLen; omega) (by omega)
  obtain ⟨A7, q7, hv⟩ := h2.slice
  subst hv
  refine ⟨A7, q7, w7, h1, h2, (Keep.ofFresh hb (B := 0)).trans' ((Keep.grown h3)), fun k q => ?_⟩
  have hs := hb.size
  rcases h4 with e | e
  · exact .inl (by rw [← e]; exact q)
  · rw [e] at q
    injection q with q
    exact .inr (by omega)
def epCells (n : Nat) (E : Nat → Nat) : List Value := (List.range n).map fun c => .int .i64 (E c)
theorem epCells_get (n : Nat) (E : Nat → Nat) {c : Nat} (hc : c < n) : (epCells n E)[c]? = some (.int .i64 (E c)) := by
  unfold epCells
  rw [List.getElem?_map, List.getElem?_range hc]
  rfl
theorem epCells_set (n : Nat) (E : Nat → Nat) {c : Nat} (hc : c < n) (x : Nat) : (epCells n E).set c (.int .i64 x) = epCells n (upd E c x) := by
  apply List.ext_getElem?
  intro j
  rw [List.getElem?_set]
  by_cases hj : j < n
  · rw [epCells_get n (upd E c x) hj]
    by_cases e : c = j
    · subst e
      rw [if_pos rfl, if_pos (by simp [epCells]; exact hc), upd_same]
    · rw [if_neg e, epCells_get n E hj, upd_other _ _ _ _ (Ne.symm e)]
  · rw [if_neg (by omega), List.getElem?_eq_none (by simp [epCells]; omega), List.getElem?_eq_none (by simp [epCells]; omega)]
structure PL (w u : World) (n r m bd ge : Nat) (vl : Value) (Y : Lay) (b : Bd) (E : Nat → Nat) (Ls : List Nat) : Prop where
  below : Below w.heap.size w u
  brd : BdAt u Y b
  bdk : Y.bd = bd
  new : ∀ k, BdF Y b k → w.heap.size < k
  box : Blk u w.heap.size 23 [.int .i64 n, .int .i64 r, .int .i64 m]
  ep : Blk u ge 3 (epCells n E)
  epn : w.heap.size < ge ∧ ¬ BdF Y b ge
  lk : RowZ u 3 1 vl Ls.length (ints (nats Ls))
  lkn : ∀ k, vl.ownBlock = some k → w.heap.size < k ∧ k ≠ ge ∧ ¬ BdF Y b k
  big : 2 ≤ w.heap.size
section
variable {w u u' : World} {n r m bd ge : Nat} {vl : Value} {Y : Lay} {b b' : Bd} {E : Nat → Nat} {Ls : List Nat}
theorem PL.fresh (h : PL w u n r m bd ge vl Y b E Ls) (hb : Below u.heap.size u u') : PL w u' n r m bd ge vl Y b E Ls := by
  have hk : Keep (fun _ => False) u u' := Keep.ofFresh hb (B := 0)
  exact ⟨h.below.trans (hb.mono h.below.size), h.brd.fresh hb, h.bdk, h.new, h.box.keep hk (fun q => q), h.ep.keep hk (fun q => q), h.epn, h.lk.keep hk (fun _ _ q => q), h.lkn, h.big⟩
theorem PL.went (h : PL w u n r m bd ge vl Y b E Ls) (hT : BdTo u Y b b' u') : ∃ Y', PL w u' n r m bd ge vl Y' b' E Ls := by
  obtain ⟨Y', ⟨y1, -⟩, hY, hk, hn⟩ := hT
  have hs := h.below.size
  have hnw : ∀ k, BdF Y' b' k → w.heap.size < k := fun k q => by
    rcases hn k q with q | q
    · exact h.new k q
    · have := h.box.lt; omega
  refine ⟨Y', h.below.trans (Keep.toBelow (hk.mono fun k _ q => Nat.le_of_lt (h.new k q)) hs), hY, y1.trans h.bdk, hnw, h.box.keep hk (fun q => by have := h.new _ q; omega), h.ep.keep hk h.epn.2, ⟨h.epn.1, fun q => ?_⟩, h.lk.keep hk (fun k q => (h.lkn k q).2.2), fun k q => ⟨(h.lkn k q).1, (h.lkn k q).2.1, fun q2 => ?_⟩, h.big⟩
  · rcases hn _ q with q | q
    · exact h.epn.2 q
    · have := h.ep.lt; omega
  · rcases hn _ q2 with q2 | q2
    · exact (h.lkn k q).2.2 q2
    · have := h.lk.lt k q; omega
theorem PL.epoch (h : PL w u n r m bd ge vl Y b E Ls) {c : Nat} (hc : c < n) (x : Nat) : PL w (u.setCell ⟨ge, c, none⟩ (.int .i64 ((x : Int) + 1))) n r m bd ge vl Y b (upd E c (x + 1)) Ls := by
  have hk : Keep (fun k => k = ge) u (u.setCell ⟨ge, c, none⟩ (.int .i64 ((x : Int) + 1))) := Keep.one
  have hne : ∀ k, BdF Y b k → ¬ k = ge := fun k q e => h.epn.2 (e ▸ q)
  have h1 := h.epn.1
  have h2 := h.big
  refine ⟨h.below.setCell (p := ⟨ge, c, none⟩) (by show w.heap.size ≤ ge; omega) _, h.brd.keep hk hne (by omega) (by omega), h.bdk, h.new, h.box.keep hk (by omega), ?_, h.epn, h.lk.keep hk (fun k q => (h.lkn k q).2.1), h.lkn, h.big⟩
  rw [← epCells_set n E hc]
  exact h.ep.set c _
theorem PL.link (h : PL w u n r m bd ge vl Y b E Ls) (hl : Ls.length ≤ 1000) (x y : Nat) (z : Int) (hz : z = (x : Int) + (y : Int)) :
    ∃ A7 q7 w7, (Builtin.append_ #[31, 31] 31 #[vl, .slice (some ⟨u.heap.size, 0, none⟩) 1 1]).run Tryz.prog (u.alloc (.cells #[.int .i64 z] 3)).drew = .ok (.slice A7 (Ls.length + 1) q7) w7 ∧ PL w w7 n r m bd ge (.slice A7 (Ls.length + 1) q7) Y b E (Ls ++ [x + y]) := by
  obtain ⟨A7, q7, w7, r1, r2, hk, r4⟩ := ik_push u vl Ls.length _ hl h.lk z
  subst hz
  have h1 := h.epn.1
  have h2 := h.big
  have hge := h.ep.lt
  have hbs := h.below.size
  refine ⟨A7, q7, w7, r1, ⟨h.below.trans (Keep.toBelow (hk.mono fun k _ q => Nat.le_of_lt (h.lkn k q).1) hbs), h.brd.keep hk (fun k q e => (h.lkn k e).2.2 q) (fun q => by have := (h.lkn _ q).1; omega) (fun q => by have := (h.lkn _ q).1; omega), h.bdk, h.new, h.box.keep hk (fun q => by have := (h.lkn _ q).1; omega), h.ep.keep hk (fun q => (h.lkn _ q).2.1 rfl), h.epn, ?_, fun k q => ?_, h.big⟩⟩
  · have e1 : ints (nats (Ls ++ [x + y])) = ints (nats Ls) ++ [.int .i64 ((x : Int) + (y : Int))] := by
      simp [ints, nats]
    rw [e1, List.length_append]
    exact r2
  · have hbx := h.box.lt
    rcases r4 k q with q | q
    · exact h.lkn k q
    · have hbs2 := h.below.size
      exact ⟨by omega, by omega, fun q2 => by have := h.brd.lt k q2; omega⟩
theorem PL.eq {E' : Nat → Nat} (h : PL w u n r m bd ge vl Y b E Ls) (he : ∀ c, c < n → E c = E' c) : PL w u n r m bd ge vl Y b E' Ls := by
  have e : epCells n E' = epCells n E := by
    unfold epCells
    apply List.map_congr_left
    intro c hc
    rw [he c (List.mem_range.1 hc)]
  exact ⟨h.below, h.brd, h.bdk, h.new, h.box, by rw [e]; exact h.ep, h.epn, h.lk, h.lkn, h.big⟩
end
structure LF (n r m : Nat) (s : Bd × List Nat) (k : Nat) : Prop where
  good : Good s.1 s.2
  now : s.1.now ≤ k
  dia : s.1.diary.length ≤ s.1.now
  same : s.1.n = n ∧ s.1.ring = r ∧ s.1.most = m
  shrt : Shrt s.1
  ep : ∀ c, s.1.ep c ≤ k
  len : s.2.length = s.1.diary.length
theorem new_ep (n r m c : Nat) : (Bd.new n r m).ep c = 0 := by
  unfold Bd.ep Bd.new Gates.newGt
  simp only [List.getD_eq_getElem?_getD, List.getElem?_replicate]
  split <;> rfl
theorem LF.first {n r m : Nat} (hR : rightB n r m = true) : LF n r m (Bd.new n r m, []) 0 := by
  obtain ⟨hn0, hn1, ⟨hr0, hr1⟩, hrb, hm0, hm1⟩ := right_of hR
  exact ⟨Good.first n r m (by omega) (by omega) (by omega) (by omega), Nat.le_refl _, Nat.le_refl _, ⟨rfl, rfl, rfl⟩, fun e he => (by cases he), fun c => by rw [new_ep]; exact Nat.le_refl _, rfl⟩
theorem LF.start {n r m k : Nat} {s : Bd × List Nat} (h : LF n r m s k) (hk : k < 1000) (x : Ev) (h7 : x.kind = 7) (h0 : (s.1.do_ x).2 = 0) : 0 ≤ x.core ∧ x.core < n ∧ ∀ c, (s.1.do_ x).1.ep c = upd s.1.ep x.core.toNat (s.1.ep x.core.toNat + 1) c := by
  obtain ⟨P, C, hI, -⟩ := h.good
  obtain ⟨a1, a2, a3, a4⟩ := do_ep_start s.1 x h7 h0
  have hc := hI.cores
  have hn := h.same.1
  have h8 := hI.n8
  refine ⟨a1, by omega, fun c => ?_⟩
  by_cases e : c = x.core.toNat
  · rw [e, upd_same]
    have := a4 (by rw [hI.gok.le]; omega)
    rw [this]
    have hep := ep_of hI (c := x.core.toNat) (by omega)
    have := h.ep x.core.toNat
    rw [hep]
    omega
  · rw [upd_other _ _ _ _ e]; exact a3 c e
theorem LF.step {n r m k : Nat} {s : Bd × List Nat} (h : LF n r m s k) (hk : k < 1000) (x : Ev) : LF n r m (lawStep s x) (k + 1) := by
  unfold lawStep
  by_cases h8 : x.kind = 8
  · rw [if_pos h8]
    exact ⟨h.good, Nat.le_succ_of_le h.now, h.dia, h.same, h.shrt, fun c => Nat.le_succ_of_le (h.ep c), h.len⟩
  · rw [if_neg h8]
    have hnow := h.now
    have hn := Bd.do_now s.1 x
    have hl := do_len s.1 x
    have hd := h.dia
    have hs := h.same
    have hg := h.good.do_ (by omega) x
    refine ⟨hg, by show (s.1.do_ x).1.now ≤ _; omega, by show (s.1.do_ x).1.diary.length ≤ (s.1.do_ x).1.now; omega, ⟨hn.2.1.trans hs.1, hn.2.2.1.trans hs.2.1, hn.2.2.2.trans hs.2.2⟩, h.good.shrt (by omega) h.shrt x, fun c => ?_, ?_⟩
    · show (s.1.do_ x).1.ep c ≤ k + 1
      by_cases h7 : x.kind = 7 ∧ (s.1.do_ x).2 = 0
      · obtain ⟨b1, b2, b3⟩ := h.start hk x h7.1 h7.2
        rw [b3]
        unfold upd
        split
        · have := h.ep x.core.toNat; omega
        · have := h.ep c; omega
      · have h7 : x.kind ≠ 7 ∨ (s.1.do_ x).2 ≠ 0 := by
          by_cases q : x.kind = 7
          · exact .inr (fun q2 => h7 ⟨q, q2⟩)
          · exact .inl q
        rw [do_ep_still s.1 x h7 c]
        have := h.ep c
        omega
    · obtain ⟨P, C, -, hD⟩ := hg
      exact hD.len
theorem lawRun_take (s : Bd × List Nat) (l : List Ev) (k : Nat) (hk : k < l.length) : lawRun s (l.take (k + 1)) = lawStep (lawRun s (l.take k)) l[k] := by
  unfold lawRun
  rw [List.take_succ_eq_append_getElem hk, List.foldl_append]
  rfl
theorem LF.run {n r m : Nat} (hR : rightB n r m = true) (l : List Ev) (hl : l.length ≤ 1000) : ∀ k, k ≤ l.length → LF n r m (lawRun (Bd.new n r m, []) (l.take k)) k := by
  intro k
  induction k with
  | zero => intro _; exact LF.first hR
  | succ k ih =>
    intro hk
    rw [lawRun_take _ _ _ (by omega)]
    exact (ih (by omega)).step (by omega) _
end Go.Proofs.YtaaffebnajjfhaaGreatDoor.T
namespace Go.Proofs.YtaaffebnajjfhaaGreatDoor.T
set_option linter.unusedVariables false
set_option linter.unusedSimpArgs false
open Go.RowKit
section
variable {w u : World} {n r m bd ge : Nat} {vl : Value} {Y : Lay} {s : Bd × List Nat} {k : Nat} {x : Ev}
theorem law_none (hF : LF n r m s k) (hk : k < 1000) (h8 : x.kind ≠ 8) (h7 : x.kind ≠ 7 ∨ (s.1.do_ x).2 ≠ 0) (h3 : ¬ (3 ≤ x.kind ∧ x.kind ≤ 5 ∧ (s.1.do_ x).2 = 0)) (h : PL w u n r m bd ge vl Y (s.1.do_ x).1 s.1.ep s.2) : PL w u n r m bd ge vl Y (lawStep s x).1 (lawStep s x).1.ep (lawStep s x).2 := by
  have e : lawStep s x = ((s.1.do_ x).1, s.2) := by
    unfold lawStep linksOf
    rw [if_neg h8, if_neg h3]
  rw [e]
  exact h.eq fun c _ => (do_ep_still s.1 x h7 c).symm
theorem law_start (hF : LF n r m s k) (hk : k < 1000) (h7 : x.kind = 7) (h0 : (s.1.do_ x).2 = 0) (h : PL w u n r m bd ge vl Y (s.1.do_ x).1 (upd s.1.ep x.core.toNat (s.1.ep x.core.toNat + 1)) s.2) : PL w u n r m bd ge vl Y (lawStep s x).1 (lawStep s x).1.ep (lawStep s x).2 := by
  have e : lawStep s x = ((s.1.do_ x).1, s.2) := by
    unfold lawStep linksOf
    rw [if_neg (by omega), if_neg (by omega)]
  rw [e]
  exact h.eq fun c _ => ((hF.start hk x h7 h0).2.2 c).symm
theorem law_link (hF : LF n r m s k) (hk : k < 1000) (h3 : 3 ≤ x.kind ∧ x.kind ≤ 5) (h0 : (s.1.do_ x).2 = 0) (h : PL w u n r m bd ge vl Y (s.1.do_ x).1 s.1.ep (s.2 ++ [s.1.ep x.core.toNat + s.1.ep x.peer.toNat])) : PL w u n r m bd ge vl Y (lawStep s x).1 (lawStep s x).1.ep (lawStep s x).2 := by
  have e : lawStep s x = ((s.1.do_ x).1, s.2 ++ [s.1.ep x.core.toNat + s.1.ep x.peer.toNat]) := by
    unfold lawStep linksOf
    rw [if_neg (by omega), if_pos ⟨h3.1, h3.2, h0⟩]
  rw [e]
  exact h.eq fun c _ => (do_ep_still s.1 x (.inl (by omega)) c).symm
end
theorem epCells_zero (n : Nat) : epCells n (fun _ => 0) = List.replicate n (Value.int .i64 0) := by
  apply List.ext_getElem?
  intro j
  by_cases hj : j < n
  · rw [epCells_get _ _ hj, List.getElem?_replicate, if_pos hj]; rfl
  · rw [List.getElem?_eq_none (by simp [epCells]; omega), List.getElem?_eq_none (by simp; omega)]
theorem PL.first {w w1 w2 w3 : World} {n r m : Nat} {Y : Lay} (hz1 : w1.heap.size = w.heap.size + 1) (hb1 : Below w.heap.size w w1) (hk1 : Blk w1 w.heap.size 23 [.int .i64 n, .int .i64 r, .int .i64 m]) (hY : BdAt w2 Y (Bd.new n r m)) (hge : ∀ k, BdF Y (Bd.new n r m) k → w1.heap.size ≤ k) (hb2 : Below w1.heap.size w1 w2) (hb3 : Below w2.heap.size w2 w3) (hbig : 2 ≤ w.heap.size) :
    PL w (w3.alloc (.cells (List.replicate n (Value.int .i64 0)).toArray 3)) n r m Y.bd w3.heap.size nilS Y (Bd.new n r m) (fun _ => 0) [] := by
  have s12 := hb2.size
  have s23 := hb3.size
  have hb4 : Below w3.heap.size w3 (w3.alloc (.cells (List.replicate n (Value.int .i64 0)).toArray 3)) := (Below.refl _ _).alloc (Nat.le_refl _) _
  have hb24 := hb3.trans (hb4.mono s23)
  have hb14 := hb2.trans (hb24.mono s12)
  refine ⟨hb1.trans (hb14.mono (by omega)), hY.fresh hb24, rfl, fun k q => by have := hge k q; omega, hk1.keep (Keep.ofFresh hb14 (B := 0) (F := fun _ => False)) (fun q => q), ?_, ⟨by omega, fun q => by have := hY.lt _ q; omega⟩, ⟨rfl, .inl ⟨rfl, rfl⟩⟩, fun k q => by simp [nilS, Value.ownBlock] at q, hbig⟩
  rw [epCells_zero]
  exact Blk.new w3 3 _
theorem few_of {n r k : Int} {l : List Evl} (h : fewB n r k l = true) : (l.length : Int) ≤ k ∧ r ≤ 8 ∧ n ≤ 4 ∧ ∀ i, i < l.length → (l.getD i Evl.none_).ev.load.length ≤ 50 := by
  unfold fewB at h
  simp only [Bool.and_eq_true, decide_eq_true_eq, List.all_eq_true] at h
  refine ⟨h.1.1.1, h.1.1.2, h.1.2, fun i hi => ?_⟩
  have := h.2 (l.getD i Evl.none_) (by rw [List.getD_eq_getElem?_getD, List.getElem?_eq_getElem hi, Option.getD_some]; exact List.getElem_mem _)
  exact this
set_option maxHeartbeats 1000000 in
set_option maxRecDepth 100000 in
theorem law_main (n r m : Nat) (hR : rightB n r m = true) (v : Value) (l : List Evl) (w : World) (hg : Glob w) (h : ActsAt w v l) (hfew : fewB n r 200 l = true) :
    Calls Tryz.prog 3 #[plotV n r m, v] w fun e w' => e = .returned (.bool true) ∧ Below w.heap.size w w' := by
  have hbig : 2 ≤ w.heap.size := by
    have h3 := hg.tab 0 (by decide)
    have := World.block_lt_of_cell? w _ h3
    exact this
  obtain ⟨hl200, -, -, hl50⟩ := few_of hfew
  obtain ⟨w1, hw1, hb1, hk1, hg1, hz1⟩ := plot_box n r m w hg
  have hN := bNew_any n r m hR w1 hg1
  have hFw : ∀ u, ActsAt u v l → Calls Tryz.prog 6 #[plotV n r m, v, .int .i64 200] u fun e w' => e = .returned (.bool true) ∧ Below u.heap.size u w' := fun u hu => by
    have := few_any n r m 200 v l u hu (by omega)
    rw [hfew] at this
    exact this
  obtain ⟨hn0, hn1, ⟨hr0, hr1⟩, hrb, hm0, hm1⟩ := right_of hR
  have hmk := fun u => make_zeros n (by omega) u
  have hmk : ∀ u : World, (Instr.makeSlice 31 (.int .i64 (n : Int)) (.int .i64 (n : Int))).run Tryz.prog u = .ok (.slice (some ⟨u.heap.size, 0, none⟩) n n) (u.alloc (.cells (List.replicate n (Value.int .i64 0)).toArray 3)) := hmk
  have p0 := hk1.cell 0
  have p1 := hk1.cell 1
  have p2 := hk1.cell 2
  simp only [List.getElem?_cons_zero, List.getElem?_cons_succ] at p0 p1 p2
  obtain ⟨A, cp, hv⟩ := h.slice
  subst hv
  have HW := Lib.hid hw1
  have HN := Lib.hid hN
  have HFW := Lib.hid hFw
  have HA := Lib.hid h
  have HK := Lib.hid (And.intro hb1 (And.intro hk1 (And.intro hg1 (And.intro hz1 hbig))))
  have HRT := Lib.hid hR
  have HL50 := Lib.hid hl50
  have hn2 : 2 ≤ n := by omega
  have hn8 : n ≤ 8 := by omega
  clear hw1 hN hFw h hb1 hk1 hg1 hz1 hbig hR hl50 hfew hg hrb hm0 hm1 hr0 hr1 hn0 hn1
  unfold plotV at *
  go_enter Tryz.func3, Tryz.ntmps3
  go_wp2_with fail
  rw [← HW.out]
  go_wp2_with fail
  refine HN.out.mono ?_
  rintro e w2 ⟨Y, rfl, hY, hge, hb2⟩
  have hk2 := HK.out.2.1.keep (Keep.ofFresh hb2 (B := 0) (F := fun _ => False)) (fun q => q)
  have q0 : w2.cell? ⟨w.heap.size, 0, none⟩ = some (.int .i64 (n : Int)) := hk2.cell 0
  have q1 : w2.cell? ⟨w.heap.size, 1, none⟩ = some (.int .i64 (r : Int)) := hk2.cell 1
  have q2 : w2.cell? ⟨w.heap.size, 2, none⟩ = some (.int .i64 (m : Int)) := hk2.cell 2
  have HA2 := Lib.hid ((HA.out.fresh HK.out.1).fresh hb2)
  have HB2 := Lib.hid (And.intro hY (And.intro hge hb2))
  clear hk2 hY hge hb2 p0 p1 p2
  go_wp2_with fail
  refine (HFW.out _ HA2.out).mono ?_
  rintro e w3 ⟨rfl, hb3⟩
  have hk3 := (HK.out.2.1.keep (Keep.ofFresh HB2.out.2.2 (B := 0) (F := fun _ => False)) (fun q => q)).keep (Keep.ofFresh hb3 (B := 0) (F := fun _ => False)) (fun q => q)
  have q0 : w3.cell? ⟨w.heap.size, 0, none⟩ = some (.int .i64 (n : Int)) := hk3.cell 0
  have hP0 := PL.first HK.out.2.2.2.1 HK.out.1 HK.out.2.1 HB2.out.1 HB2.out.2.1 HB2.out.2.2 hb3 HK.out.2.2.2.2
  have HP0 := Lib.hid hP0
  clear hk3 hP0 hb3 HFW HA2 HN
  go_wp2_with fail
  obtain ⟨bd, hbd⟩ : ∃ bd, bd = Y.bd := ⟨_, rfl⟩
  obtain ⟨ge, hge⟩ : ∃ ge, ge = w3.heap.size := ⟨_, rfl⟩
  rw [← hbd, ← hge] at HP0
  rw [← hbd, ← hge]
  clear hbd hge
  go_loopw [8, 39] (fun lv jv u => ∃ k : Nat, k ≤ l.length ∧ jv = .int .i64 k ∧ ∃ Y, PL w u n r m bd ge lv Y (lawRun (Bd.new n r m, []) ((l.map (·.ev)).take k)).1 (lawRun (Bd.new n r m, []) ((l.map (·.ev)).take k)).1.ep (lawRun (Bd.new n r m, []) ((l.map (·.ev)).take k)).2)
    (fun _ jv _ => l.length - (intOf jv).toNat)
  case atStart => exact ⟨0, by omega, rfl, Y, HP0.out.eq fun c _ => (new_ep n r m c).symm⟩
  case round =>
    obtain ⟨k, hk, rfl, Y, hP⟩ := hrel
    have hlm : (l.map (·.ev)).length = l.length := List.length_map _
    have hLF := LF.run HRT.out (l.map (·.ev)) (by omega) k (by omega)
    obtain ⟨s, hs⟩ : ∃ s, s = lawRun (Bd.new n r m, []) ((l.map (·.ev)).take k) := ⟨_, rfl⟩
    rw [← hs] at hP hLF
    obtain ⟨Av, qv, hvl⟩ := hP.lk.slice
    subst hvl
    by_cases hin : k < l.length
    · have hst := lawRun_take (Bd.new n r m, []) (l.map (·.ev)) k (by omega)
      have hxe : (l.map (·.ev))[k]'(by omega) = (l.getD k Evl.none_).ev := by
        rw [List.getElem_map, List.getD_eq_getElem?_getD, List.getElem?_eq_getElem hin]
        rfl
      rw [hxe] at hst
      rw [← hs] at hst
      clear hs
      obtain ⟨g, off, c', hv, hc, hx⟩ := (HA.out.keep (Keep.below hP.below) (fun j hj q => by omega)).at_ hin
      injection hv with hA hzz hcc
      clear hzz
      subst hA hcc
      have hld50 := HL50.out k hin
      have hlk := fun (u : World) (Y : Lay) (b : Bd) (hb : Below w.heap.size w u) (hnn : ∀ j, BdF Y b j → w.heap.size ≤ j) => HA.out.loadOk hin (by omega) hb hnn
      obtain ⟨A2, c2, hlv⟩ := ((HA.out).load k hin).1.slice
      generalize l.getD k Evl.none_ = x at *
      obtain ⟨⟨kind, core, peer, hd, load⟩, lv, o, vv⟩ := x
      simp only at hst hlv hlk hld50 hx
      subst hlv
      have x0 := hx 0 (by omega)
      have x1 := hx 1 (by omega)
      have x2 := hx 2 (by omega)
      have x3 := hx 3 (by omega)
      have x4 := hx 4 (by omega)
      have x5 := hx 5 (by omega)
      have x6 := hx 6 (by omega)
      simp only [evCells, List.getElem?_cons_zero, List.getElem?_cons_succ, Nat.add_zero] at x0 x1 x2 x3 x4 x5 x6
      have hi0 : (0 : Int) ≤ (k : Int) := by omega
      have hi1 : (k : Int) < (l.length : Int) := by omega
      obtain ⟨wB, hwB⟩ : ∃ wB, wB = wr.alloc (.cells #[.int .i64 kind, .int .i64 core, .int .i64 peer, .int .i64 hd, .slice A2 load.length c2, .int .i64 o, .int .i64 vv] 33) := ⟨_, rfl⟩
      have hba : Below wr.heap.size wr wB := by rw [hwB]; exact (Below.refl _ _).alloc (Nat.le_refl _) _
      have hkB : Blk wB wr.heap.size 33 [.int .i64 kind, .int .i64 core, .int .i64 peer, .int .i64 hd, .slice A2 load.length c2, .int .i64 o, .int .i64 vv] := by rw [hwB]; exact Blk.new wr 33 _
      have hPB := hP.fresh hba
      have y0 := hkB.cell 0
      have y1 := hkB.cell 1
      have y2 := hkB.cell 2
      have y3 := hkB.cell 3
      have y4 := hkB.cell 4
      have y5 := hkB.cell 5
      have y6 := hkB.cell 6
      simp only [List.getElem?_cons_zero, List.getElem?_cons_succ] at y0 y1 y2 y3 y4 y5 y6
      have hgel := hP.ep.lt
      have hnb : ¬ BdF Y s.1 wr.heap.size := fun q => by have := hP.brd.lt _ q; omega
      have HWB := Lib.hid hwB
      have HPB := Lib.hid (And.intro hPB (And.intro hkB hnb))
      have HST := Lib.hid hst
      have HLF := Lib.hid hLF
      clear hLF hx hba hkB hPB hnb hst hwB hP HP0 HK HB2 hlm hxe
      go_upto_region 9 with fail
      rw [← HWB.out]
      clear x0 x1 x2 x3 x4 x5 x6
      by_cases h8 : kind = 8
      · have n8 : (kind == 8) = true := by rw [beq_iff_eq]; exact h8
        have H8 := Lib.hid h8
        clear h8 hlk
        go_wp2_with fail
        go_roundw
        case rel =>
          refine ⟨k + 1, by omega, by go_num, Y, ?_⟩
          rw [HST.out]
          unfold lawStep
          rw [if_pos (show (⟨kind, core, peer, hd, load⟩ : Ev).kind = 8 from H8.out)]
          exact HPB.out.1
        case measure => simp [intOf]; omega
      · have n8 : (kind == 8) = false := by rw [beq_eq_false_iff_ne]; exact h8
        have hDo := bDo_any (o := o) (v := vv) (x := ⟨kind, core, peer, hd, load⟩) (lv := .slice A2 load.length c2) HLF.out.good (by have := HLF.out.now; omega) HLF.out.dia (by have := HLF.out.same; rw [this.1, this.2.1, this.2.2]; exact HRT.out) h8 (hlk _ _ _ HPB.out.1.below (fun j q => Nat.le_of_lt (HPB.out.1.new j q))) HPB.out.1.brd
        rw [HPB.out.1.bdk] at hDo
        unfold evV ptr at hDo
        simp only at hDo
        obtain ⟨e3, he3⟩ : ∃ e3, e3 = (s.1.do_ ⟨kind, core, peer, hd, load⟩).2 := ⟨_, rfl⟩
        rw [← he3] at hDo
        have HDO := Lib.hid hDo
        have HE3 := Lib.hid he3
        have H8 := Lib.hid h8
        clear hDo he3 h8 hlk
        go_wp2_with fail
        refine HDO.out.mono ?_
        rintro e w5 ⟨rfl, hT⟩
        obtain ⟨Y5, hP5⟩ := HPB.out.1.went hT
        obtain ⟨-, -, -, hkT, -⟩ := hT
        have hev5 := HPB.out.2.1.keep hkT HPB.out.2.2
        have z0 := hev5.cell 0
        have z1 := hev5.cell 1
        have z2 := hev5.cell 2
        simp only [List.getElem?_cons_zero, List.getElem?_cons_succ] at z0 z1 z2
        have HP5 := Lib.hid hP5
        have HEV := Lib.hid hev5
        clear hkT hev5 HDO hP5 y0 y1 y2 y3 y4 y5 y6
        by_cases h7 : kind = 7
        · have n7 : (kind == 7) = true := by rw [beq_iff_eq]; exact h7
          have g3 : (3 : Int) ≤ kind := by omega
          have g5 : ¬ kind ≤ 5 := by omega
          by_cases h0 : e3 = 0
          · have e0 : (e3 == 0) = true := by rw [beq_iff_eq]; exact h0
            have h0' : (s.1.do_ ⟨kind, core, peer, hd, load⟩).2 = 0 := HE3.out.symm.trans h0
            obtain ⟨c1, c2, -⟩ := HLF.out.start (by omega) ⟨kind, core, peer, hd, load⟩ h7 h0'
            obtain ⟨c, hc⟩ : ∃ c : Nat, core = (c : Int) := ⟨core.toNat, by have c1 : 0 ≤ core := c1; omega⟩
            subst hc
            have c2 : (c : Int) < (n : Int) := c2
            have hcn : c < n := by omega
            have hc0 : (0 : Int) ≤ (c : Int) := by omega
            have ec := HP5.out.ep.cell c
            rw [epCells_get n _ hcn] at ec
            have fc := HP5.out.ep.free c
            have hee := HLF.out.ep c
            have hpe := HP5.out.epoch hcn (s.1.ep c)
            obtain ⟨ee, he⟩ : ∃ ee, ee = s.1.ep c := ⟨_, rfl⟩
            rw [← he] at ec hee hpe
            have z0' := (HEV.out.far (p := ⟨ge, c, none⟩) (by show wr.heap.size ≠ ge; omega) (.int .i64 ((ee : Int) + 1))).cell 0
            simp only [List.getElem?_cons_zero, List.getElem?_cons_succ] at z0'
            have HPE := Lib.hid (And.intro hpe (And.intro he (And.intro h7 h0')))
            clear hpe he h7 h0' h0 c1
            go_wp2_with fail
            go_roundw
            case rel =>
              refine ⟨k + 1, by omega, by go_num, Y5, ?_⟩
              rw [HST.out]
              refine law_start HLF.out (by omega) HPE.out.2.2.1 HPE.out.2.2.2 ?_
              have := HPE.out.1
              have e1 : upd s.1.ep c (ee + 1) = upd s.1.ep c (s.1.ep c + 1) := by rw [HPE.out.2.1]
              rw [e1] at this
              exact this
            case measure => simp [intOf]; omega
          · have e0 : (e3 == 0) = false := by rw [beq_eq_false_iff_ne]; exact h0
            have HN := Lib.hid (show (s.1.do_ ⟨kind, core, peer, hd, load⟩).2 ≠ 0 from fun q => h0 (HE3.out.trans q))
            clear h0 h7
            go_wp2_with fail
            go_roundw
            case rel =>
              refine ⟨k + 1, by omega, by go_num, Y5, ?_⟩
              rw [HST.out]
              exact law_none HLF.out (by omega) H8.out (.inr HN.out) (fun q => absurd q.2.2 HN.out) HP5.out
            case measure => simp [intOf]; omega
        · have n7 : (kind == 7) = false := by rw [beq_eq_false_iff_ne]; exact h7
          have H7 := Lib.hid h7
          clear h7
          by_cases g3 : (3 : Int) ≤ kind
          · by_cases g5 : kind ≤ 5
            · by_cases h0 : e3 = 0
              · have e0 : (e3 == 0) = true := by rw [beq_iff_eq]; exact h0
                have h0' : (s.1.do_ ⟨kind, core, peer, hd, load⟩).2 = 0 := HE3.out.symm.trans h0
                obtain ⟨⟨c1, c2⟩, ⟨d1, d2⟩⟩ := do_call_has s.1 ⟨kind, core, peer, hd, load⟩ g3 g5 h0'
                have hsn := HLF.out.same.1
                obtain ⟨c, hc⟩ : ∃ c : Nat, core = (c : Int) := ⟨core.toNat, by have c1 : 0 ≤ core := c1; omega⟩
                obtain ⟨d, hd'⟩ : ∃ d : Nat, peer = (d : Int) := ⟨peer.toNat, by have d1 : 0 ≤ peer := d1; omega⟩
                subst hc hd'
                have c2 : (c : Int) < (s.1.n : Int) := c2
                have d2 : (d : Int) < (s.1.n : Int) := d2
                have hcn : c < n := by omega
                have hdn : d < n := by omega
                have hc0 : (0 : Int) ≤ (c : Int) := by omega
                have hd0 : (0 : Int) ≤ (d : Int) := by omega
                have hc1 : (c : Int) < (n : Int) := by omega
                have hd1 : (d : Int) < (n : Int) := by omega
                have ec := HP5.out.ep.cell c
                have ed := HP5.out.ep.cell d
                rw [epCells_get n _ hcn] at ec
                rw [epCells_get n _ hdn] at ed
                have hee := HLF.out.ep c
                have hff := HLF.out.ep d
                have hl1000 : s.2.length ≤ 1000 := by have h1 := HLF.out.len; have h2 := HLF.out.dia; have h3 := HLF.out.now; omega
                have hzz : IntKind.i64.wrap ((s.1.ep c : Int) + (s.1.ep d : Int)) = (s.1.ep c : Int) + (s.1.ep d : Int) := by rw [IntKind.wrap_i64]; omega
                obtain ⟨A7, q7, w7, hr7, hP7⟩ := HP5.out.link hl1000 (s.1.ep c) (s.1.ep d) _ hzz
                clear hzz
                obtain ⟨ee, he⟩ : ∃ ee, ee = s.1.ep c := ⟨_, rfl⟩
                obtain ⟨ff, hf⟩ : ∃ ff, ff = s.1.ep d := ⟨_, rfl⟩
                rw [← he] at ec hee hP7 hr7
                rw [← hf] at ed hff hP7 hr7
                have HR7 := Lib.hid hr7
                have HP7 := Lib.hid (And.intro hP7 (And.intro he (And.intro hf (And.intro h0' (And.intro g3 g5)))))
                clear hr7 hP7 he hf h0' h0 c1 c2 d1 d2 hsn
                go_wp2_with fail
                go_region_law (refine app_run_step rfl _ _ 31 31 rfl rfl rfl rfl HR7.out ?_)
                all_goals (
                  go_wp2_with fail
                  go_roundw
                  case rel =>
                    refine ⟨k + 1, by omega, by go_num, Y5, ?_⟩
                    rw [HST.out]
                    refine law_link HLF.out (by omega) ⟨HP7.out.2.2.2.2.1, HP7.out.2.2.2.2.2⟩ HP7.out.2.2.2.1 ?_
                    have := HP7.out.1
                    rw [HP7.out.2.1, HP7.out.2.2.1] at this
                    exact this
                  case measure => simp [intOf]; omega)
              · have e0 : (e3 == 0) = false := by rw [beq_eq_false_iff_ne]; exact h0
                have HN := Lib.hid (show (s.1.do_ ⟨kind, core, peer, hd, load⟩).2 ≠ 0 from fun q => h0 (HE3.out.trans q))
                clear h0
                go_wp2_with fail
                go_roundw
                case rel =>
                  refine ⟨k + 1, by omega, by go_num, Y5, ?_⟩
                  rw [HST.out]
                  exact law_none HLF.out (by omega) H8.out (.inl H7.out) (fun q => absurd q.2.2 HN.out) HP5.out
                case measure => simp [intOf]; omega
            · have HG := Lib.hid g5
              go_wp2_with fail
              go_roundw
              case rel =>
                refine ⟨k + 1, by omega, by go_num, Y5, ?_⟩
                rw [HST.out]
                exact law_none HLF.out (by omega) H8.out (.inl H7.out) (fun q => by have h1 := HG.out; have h2 : kind ≤ 5 := q.2.1; omega) HP5.out
              case measure => simp [intOf]; omega
          · have HG := Lib.hid g3
            go_wp2_with fail
            go_roundw
            case rel =>
              refine ⟨k + 1, by omega, by go_num, Y5, ?_⟩
              rw [HST.out]
              exact law_none HLF.out (by omega) H8.out (.inl H7.out) (fun q => by have h1 := HG.out; have h2 : 3 ≤ kind := q.1; omega) HP5.out
            case measure => simp [intOf]; omega
    · have hin2 : k = l.length := by omega
      subst hin2
      clear hs
      have hd200 : s.1.diary.length ≤ 200 := by have h1 := hLF.dia; have h2 := hLF.now; omega
      have hsh : ∀ j, j < s.1.diary.length → (s.1.diary.getD j Ent.none_).load.length ≤ 1000 := fun j hj => by
        have := shrt_getD hLF.shrt j
        omega
      have hDi := bDiary_any (by omega) hsh hP.brd
      unfold ptr at hDi
      rw [hP.bdk] at hDi
      have HD := Lib.hid hDi
      have HP := Lib.hid hP
      have HLF := Lib.hid hLF
      have HSH := Lib.hid hsh
      have hsl := hLF.len
      have nd : ((s.1.diary.length : Int) != (s.2.length : Int)) = false := by simp; omega
      clear hDi hP hLF hsh hlm HP0 HK HB2 hsl
      go_wp2_with fail
      refine HD.out.mono ?_
      rintro e w6 ⟨dv, dl, rfl, hdv⟩
      obtain ⟨Ad, qd, hve, -, -⟩ := Row.slice hdv.row
      subst hve
      have hk6 := HP.out.fresh hdv.b
      have q0 : w6.cell? ⟨w.heap.size, 0, none⟩ = some (.int .i64 (n : Int)) := hk6.box.cell 0
      have hlk6 : ReadI w6 (.slice Av s.2.length qv) (nats s.2) := by
        rcases hk6.lk.2 with ⟨e1, e2⟩ | ⟨gq, cap, cur, e1, -, hgq, hc1, hc2, hc3, ht⟩
        · exact .inl ⟨List.length_eq_zero_iff.1 (by rw [nats_len]; exact e2), Av, qv, by rw [e2]⟩
        · injection e1 with e1 e3 e4
          have hb6 : Blk w6 gq 3 cur.toList := by unfold Blk; simpa using hgq
          refine .inr ⟨gq, 0, cap, by rw [nats_len, e1, e4], hb6.lt, by rw [nats_len]; exact hc1, fun j hj => ?_⟩
          rw [nats_len] at hj
          rw [Nat.zero_add, hb6.cell]
          have h1 : (ints (nats s.2))[j]? = some (.int .i64 ((nats s.2).getD j 0)) := ints_get _ _ (by rw [nats_len]; exact hj)
          rw [← ht, List.getElem?_take, if_pos (by omega)] at h1
          exact h1
      have HDV := Lib.hid (And.intro hdv (And.intro hlk6 (And.intro hk6.below hk6.brd.glob)))
      have hpx : ∀ (u : World), Below w6.heap.size w6 u → ∀ (i j L : Nat), i < n → j < n → i ≠ j → Calls Tryz.prog 10 #[.slice Ad s.1.diary.length qd, .slice Av s.2.length qv, .int .i64 i, .int .i64 j, .int .i64 L] u fun e w' => e = .returned (.bool true) ∧ Below u.heap.size u w' := by
        intro u hu i j L hi hj hij
        obtain ⟨dv1, dv2, dv3, dv4⟩ := HDV.out
        have hn' := HLF.out.same.1
        have hdr : DRead u (.slice Ad s.1.diary.length qd) s.1.diary dl := DRead.fresh ⟨dv1.row, dv1.loads⟩ hu
        exact pfx_any u _ _ s.1.diary dl s.2 i j L hdr HLF.out.len (by omega) HSH.out (dv2.fresh hu) (prefix_law HLF.out.good (by omega) (by omega) hij L).1
      have HPX := Lib.hid hpx
      clear hdv hlk6 hk6 hpx HD
      have hl0 : (0 : Int) ≤ (l.length : Int) := by omega
      go_wp2_with fail
      go_loopw [99] (fun jv u => ∃ i : Nat, i ≤ n ∧ jv = .int .i64 i ∧ Below w6.heap.size w6 u ∧ u.cell? ⟨w.heap.size, 0, none⟩ = some (.int .i64 (n : Int)))
        (fun jv _ => n - (intOf jv).toNat)
      case atStart => exact ⟨0, by omega, rfl, Below.refl _ _, q0⟩
      case round =>
        obtain ⟨i, hi, rfl, hbi, qi⟩ := hrel
        obtain ⟨wi, rfl⟩ : ∃ wi : World, wi = wr := ⟨_, rfl⟩
        by_cases hin : i < n
        · have hi0 : (0 : Int) ≤ (i : Int) := by omega
          have hi1 : (i : Int) < (n : Int) := by omega
          have HBI := Lib.hid hbi
          clear hbi
          go_wp2_with fail
          go_loopw [104] (fun jv u => ∃ j : Nat, j ≤ n ∧ jv = .int .i64 j ∧ Below w6.heap.size w6 u)
            (fun jv _ => n - (intOf jv).toNat)
          case atStart => exact ⟨0, by omega, rfl, HBI.out⟩
          case round =>
            obtain ⟨j, hj, rfl, hbj⟩ := hrel
            obtain ⟨wj, rfl⟩ : ∃ wj : World, wj = wr := ⟨_, rfl⟩
            by_cases hjn : j < n
            · have hj0 : (0 : Int) ≤ (j : Int) := by omega
              have hj1 : (j : Int) < (n : Int) := by omega
              have HBJ := Lib.hid hbj
              clear hbj
              go_wp2_with fail
              go_loopw [15] (fun jv u => ∃ L : Nat, L ≤ l.length + 1 ∧ jv = .int .i64 L ∧ Below w6.heap.size w6 u)
                (fun jv _ => l.length + 1 - (intOf jv).toNat)
              case atStart => exact ⟨0, by omega, rfl, HBJ.out⟩
              case round =>
                obtain ⟨L, hL, rfl, hbL⟩ := hrel
                by_cases hLn : L ≤ l.length
                · have hL0 : (L : Int) ≤ (l.length : Int) := by omega
                  by_cases hij : i = j
                  · have nij : ((i : Int) != (j : Int)) = false := by simp; omega
                    have HBL := Lib.hid hbL
                    clear hbL hij
                    go_wp2_with fail
                    go_roundw
                    case rel => exact ⟨j + 1, by omega, by go_num, HBL.out⟩
                    case measure => simp [intOf]; omega
                  · have nij : ((i : Int) != (j : Int)) = true := by rw [bne_iff_ne]; omega
                    have hC := HPX.out wr hbL i j L hin hjn hij
                    have HC := Lib.hid hC
                    have HBL := Lib.hid hbL
                    clear hbL hij hC
                    go_wp2_with fail
                    refine HC.out.mono ?_
                    rintro e w7 ⟨rfl, hb7⟩
                    have HB7 := Lib.hid (HBL.out.trans (hb7.mono HBL.out.size))
                    clear hb7
                    go_wp2_with fail
                    go_roundw
                    case rel => exact ⟨L + 1, by omega, by go_num, HB7.out⟩
                    case measure => simp [intOf]; omega
                · have hL0 : ¬ (L : Int) ≤ (l.length : Int) := by omega
                  have HBL := Lib.hid hbL
                  clear hbL
                  go_wp2_with fail
                  go_roundw
                  case rel => exact ⟨j + 1, by omega, by go_num, HBL.out⟩
                  case measure => simp [intOf]; omega
            · have hj1 : ¬ (j : Int) < (n : Int) := by omega
              have qj : wj.cell? ⟨w.heap.size, 0, none⟩ = some (.int .i64 (n : Int)) := by
                rw [hbj.cell (p := ⟨w.heap.size, 0, none⟩) (World.block_lt_of_cell? w6 _ q0)]
                exact q0
              have HBJ := Lib.hid (And.intro hbj qj)
              clear hbj qj
              go_wp2_with fail
              go_roundw
              case rel => exact ⟨i + 1, by omega, by go_num, HBJ.out.1, HBJ.out.2⟩
              case measure => simp [intOf]; omega
        · have hi1 : ¬ (i : Int) < (n : Int) := by omega
          have hA := alive_any wi ((HDV.out.2.2.2).fresh hbi)
          have HA9 := Lib.hid hA
          have HBI := Lib.hid hbi
          clear hbi hA
          go_wp2_with fail
          refine HA9.out.mono ?_
          rintro e w8 ⟨rfl, hb8⟩
          go_wp2_with fail
          go_ret
          have h1 := HDV.out.2.2.1
          have h2 := h1.trans (HBI.out.mono h1.size)
          exact ⟨rfl, h2.trans (hb8.mono h2.size)⟩
end Go.Proofs.YtaaffebnajjfhaaGreatDoor.T
namespace Go.Proofs.YtaaffebnajjfhaaGreatDoor.T
set_option linter.unusedVariables false
set_option linter.unusedSimpArgs false
open Go.RowKit
set_option maxHeartbeats 2000000 in
set_option maxRecDepth 100000 in
theorem law_wrong (n r m : Int) (hR : rightB n r m = false) (hr : r < 9223372036854775808) (v : Value) (w : World) (hg : Glob w) :
    Calls Tryz.prog 3 #[plotV n r m, v] w fun e w' => e = .returned (.bool true) ∧ Below w.heap.size w w' := by
  obtain ⟨w1, hw1, hb1, hk1, hg1, hz1⟩ := plot_box n r m w hg
  have hN := bNew_no n r m hR hr w1 hg1
  have p0 := hk1.cell 0
  have p1 := hk1.cell 1
  have p2 := hk1.cell 2
  simp only [List.getElem?_cons_zero, List.getElem?_cons_succ] at p0 p1 p2
  have HW := Lib.hid hw1
  have HN := Lib.hid hN
  have HB := Lib.hid (And.intro hb1 hg1)
  clear hw1 hN hb1 hk1 hg1 hz1 hR hg hr
  unfold plotV at *
  go_enter Tryz.func3, Tryz.ntmps3
  go_wp2_with fail
  rw [← HW.out]
  go_wp2_with fail
  refine HN.out.mono ?_
  rintro e w2 ⟨rfl, hb2⟩
  have hA := alive_any w2 (HB.out.2.fresh hb2)
  have HA := Lib.hid hA
  have HB2 := Lib.hid (HB.out.1.trans (hb2.mono HB.out.1.size))
  clear hA hb2
  go_wp2_with fail
  refine HA.out.mono ?_
  rintro e w3 ⟨rfl, hb3⟩
  go_wp2_with fail
  go_ret
  exact ⟨rfl, HB2.out.trans (hb3.mono HB2.out.size)⟩
set_option maxHeartbeats 2000000 in
set_option maxRecDepth 100000 in
theorem law_many (n r m : Nat) (hR : rightB n r m = true) (v : Value) (l : List Evl) (w : World) (hg : Glob w) (h : ActsAt w v l) (hfew : fewB n r 200 l = false) :
    Calls Tryz.prog 3 #[plotV n r m, v] w fun e w' => e = .returned (.bool true) ∧ Below w.heap.size w w' := by
  obtain ⟨w1, hw1, hb1, hk1, hg1, hz1⟩ := plot_box n r m w hg
  have hN := bNew_any n r m hR w1 hg1
  have hFw : ∀ u, ActsAt u v l → Calls Tryz.prog 6 #[plotV n r m, v, .int .i64 200] u fun e w' => e = .returned (.bool false) ∧ Below u.heap.size u w' := fun u hu => by
    have := few_any n r m 200 v l u hu (by omega)
    rw [hfew] at this
    exact this
  have p0 := hk1.cell 0
  have p1 := hk1.cell 1
  have p2 := hk1.cell 2
  simp only [List.getElem?_cons_zero, List.getElem?_cons_succ] at p0 p1 p2
  have HW := Lib.hid hw1
  have HN := Lib.hid hN
  have HFW := Lib.hid hFw
  have HA := Lib.hid h
  have HK := Lib.hid (And.intro hb1 (And.intro hk1 hg1))
  clear hw1 hN hFw h hb1 hk1 hg1 hz1 hR hfew hg
  unfold plotV at *
  go_enter Tryz.func3, Tryz.ntmps3
  go_wp2_with fail
  rw [← HW.out]
  go_wp2_with fail
  refine HN.out.mono ?_
  rintro e w2 ⟨Y, rfl, hY, hge, hb2⟩
  have hk2 := HK.out.2.1.keep (Keep.ofFresh hb2 (B := 0) (F := fun _ => False)) (fun q => q)
  have q0 : w2.cell? ⟨w.heap.size, 0, none⟩ = some (.int .i64 (n : Int)) := hk2.cell 0
  have q1 : w2.cell? ⟨w.heap.size, 1, none⟩ = some (.int .i64 (r : Int)) := hk2.cell 1
  have q2 : w2.cell? ⟨w.heap.size, 2, none⟩ = some (.int .i64 (m : Int)) := hk2.cell 2
  have HA2 := Lib.hid ((HA.out.fresh HK.out.1).fresh hb2)
  have HB2 := Lib.hid (HK.out.1.trans (hb2.mono HK.out.1.size))
  have HG2 := Lib.hid (HK.out.2.2.fresh hb2)
  clear hk2 hY hge hb2 p0 p1 p2
  go_wp2_with fail
  refine (HFW.out _ HA2.out).mono ?_
  rintro e w3 ⟨rfl, hb3⟩
  have hA := alive_any w3 (HG2.out.fresh hb3)
  have HA3 := Lib.hid hA
  have HB3 := Lib.hid (HB2.out.trans (hb3.mono HB2.out.size))
  clear hA hb3
  go_wp2_with fail
  refine HA3.out.mono ?_
  rintro e w4 ⟨rfl, hb4⟩
  go_wp2_with fail
  go_ret
  exact ⟨rfl, HB3.out.trans (hb4.mono HB3.out.size)⟩
theorem law_any (n r m : Int) (hr : r < 9223372036854775808) (v : Value) (l : List Evl) (w : World) (hg : Glob w) (h : ActsAt w v l) :
    Calls Tryz.prog 3 #[plotV n r m, v] w fun e w' => e = .returned (.bool true) ∧ Below w.heap.size w w' := by
  cases hR : rightB n r m with
  | false => exact law_wrong n r m hR hr v w hg
  | true =>
    have hb := right_of hR
    obtain ⟨hn0, hn1, ⟨hr0, hr1⟩, hrb, hm0, hm1⟩ := hb
    obtain ⟨n', rfl⟩ := Int.eq_ofNat_of_zero_le (show 0 ≤ n by omega)
    obtain ⟨r', rfl⟩ := Int.eq_ofNat_of_zero_le (show 0 ≤ r by omega)
    obtain ⟨m', rfl⟩ := Int.eq_ofNat_of_zero_le (show 0 ≤ m by omega)
    cases hF : fewB n' r' 200 l with
    | true => exact law_main n' r' m' hR v l w hg h hF
    | false => exact law_many n' r' m' hR v l w hg h hF
end Go.Proofs.YtaaffebnajjfhaaGreatDoor.T
