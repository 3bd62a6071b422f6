/- GrantOnce: the walk of the law: whatever the number and the calls, it comes to true, and what was there in memory is as it was. -/
import Derived.Test.YtgkjiemjghmgmaaOnceLaw
import Derived.Test.YtgkjiemjghmgmaaOps
namespace Go.Proofs.Ytgkjiemjghmgmaa.Grants
set_option linter.unusedVariables false
set_option linter.unusedSimpArgs false
open Go.RowKit Go.Proofs.YtgkjiemjghmgmaaW.PrintWords

theorem once_neq (b : Nat) (w : World) : (binOp .eql 23 (.pointer (some ⟨b, 0, none⟩)) (.pointer none)).run Try.prog w = .ok (.bool false) w := by kernel_rfl
theorem once_nil (w : World) : (binOp .eql 23 (.pointer none) (.pointer none)).run Try.prog w = .ok (.bool true) w := by kernel_rfl
theorem once_info3 : (Try.prog.info? 3).map (fun i => (i.zero, i.size, i.bytes)) = some (some (.int .i64 0), 1, 8) := by kernel_rfl

/-- A slice of handles, a row of the call's own, that is not the row of the value u. -/
def Rw (w : World) (u : World) (o v : Value) (l : List Int) : Prop := Kd.R (Kd.int .i64) 3 u (w.heap.size + 1) (fun k => some k ≠ o.ownBlock) v l
theorem Rw.c {w u : World} {o : Value} {A : Option Addr} {n c : Nat} {l : List Int} (h : Rw w u o (.slice A n c) l) : n = l.length ∧ l.length ≤ c ∧ Kd.C (Kd.int .i64) u A l.length l := by
  have := Kd.R_reads' h
  exact ⟨this.1, this.1 ▸ this.2.1, this.2.2⟩
theorem Rw.below {w u u' : World} {o v : Value} {l : List Int} (h : Rw w u o v l) (hb : Below u.heap.size u u') : Rw w u' o v l := Kd.R_below h hb
theorem Rw.grown0 {w u u' : World} {o v : Value} {l : List Int} (h : Rw w u o v l) (hg : u.grownBy u' (some w.heap.size)) : Rw w u' o v l := by
  have h1 := Kd.R_mono (ok' := fun k => some k ≠ o.ownBlock ∧ k ≠ w.heap.size) (Kd.R_bound h) (fun k hk => ⟨hk.1, by have := hk.2.1; omega⟩)
  exact Kd.R_mono (Kd.R_grown h1 hg (fun k hk => by simpa using hk.2)) (fun _ hk => hk.1)
/-- The other row has been written, or lies anew. -/
theorem Rw.grownO {w u u' : World} {o o' v : Value} {l : List Int} (h : Rw w u o v l) (hg : u.grownBy u' o.ownBlock) (ho : o'.ownBlock = o.ownBlock ∨ ∃ b, o'.ownBlock = some b ∧ u.heap.size ≤ b) : Rw w u' o' v l := by
  have h1 := Kd.R_mono (ok' := fun k => some k ≠ o.ownBlock ∧ k < u.heap.size) (Kd.R_bound h) (fun k hk => ⟨hk.1, hk.2.2.1⟩)
  refine Kd.R_mono (Kd.R_grown h1 hg (fun k hk => hk.1)) (fun k hk => ?_)
  rcases ho with e | ⟨b, e, hb⟩
  · rw [e]; exact hk.1
  · rw [e]; intro q; injection q with q; omega
theorem Rw.fresh {w u : World} {o v : Value} {l : List Int} (h : Rw w u o v l) : ∀ k, u.heap.size ≤ k → some k ≠ v.ownBlock := fun k hk e => by
  have := (Kd.R_bound h).1 k e.symm
  omega
theorem Rw.nil (w u : World) (o : Value) : Rw w u o (.slice none 0 0) [] := Kd.R_nil _ _ _ _ _

structure GO (w : World) (k : Tb) (vg vd : Value) (gn gd : List Int) (u : World) : Prop where
  at_ : At u w.heap.size k
  g : Rw w u vd vg gn
  d : Rw w u vg vd gd
  bel : Below w.heap.size w u
theorem GO.below {w u u' : World} {k : Tb} {vg vd : Value} {gn gd : List Int} (h : GO w k vg vd gn gd u) (hb : Below u.heap.size u u') : GO w k vg vd gn gd u' :=
  ⟨(hb.block _ (lt_of_block h.at_)).trans h.at_, h.g.below hb, h.d.below hb, h.bel.trans (hb.mono h.bel.size)⟩
theorem GO.do_ {w u u' : World} {k k' : Tb} {vg vd : Value} {gn gd : List Int} (h : GO w k vg vd gn gd u) (hA : At u' w.heap.size k') (hg : u.grownBy u' (some w.heap.size)) : GO w k' vg vd gn gd u' :=
  ⟨hA, h.g.grown0 hg, h.d.grown0 hg, below_grown h.bel hg h.bel.size (Nat.le_refl _)⟩
/-- The good ones have grown. -/
theorem GO.growD {w u u' : World} {k : Tb} {vg vd v' : Value} {gn gd gd' : List Int} (h : GO w k vg vd gn gd u) (hR : Rw w u' vg v' gd') (hg : u.grownBy u' vd.ownBlock) (ho : v'.ownBlock = vd.ownBlock ∨ ∃ b, v'.ownBlock = some b ∧ u.heap.size ≤ b) : GO w k vg v' gn gd' u' := by
  have hd := Kd.R_bound h.d
  refine ⟨(hg.block _ (lt_of_block h.at_) (fun e => ?_)).trans h.at_, h.g.grownO hg ho, hR, h.bel.grown hg h.bel.size (fun k hk => ?_)⟩
  · have := (hd.1 _ e.symm).2.1; omega
  · have := (hd.1 _ hk).2.1; omega
/-- The gone ones have grown. -/
theorem GO.growG {w u u' : World} {k : Tb} {vg vd v' : Value} {gn gn' gd : List Int} (h : GO w k vg vd gn gd u) (hR : Rw w u' vd v' gn') (hg : u.grownBy u' vg.ownBlock) (ho : v'.ownBlock = vg.ownBlock ∨ ∃ b, v'.ownBlock = some b ∧ u.heap.size ≤ b) : GO w k v' vd gn' gd u' := by
  have hd := Kd.R_bound h.g
  refine ⟨(hg.block _ (lt_of_block h.at_) (fun e => ?_)).trans h.at_, hR, h.d.grownO hg ho, h.bel.grown hg h.bel.size (fun k hk => ?_)⟩
  · have := (hd.1 _ e.symm).2.1; omega
  · have := (hd.1 _ hk).2.1; omega

end Go.Proofs.Ytgkjiemjghmgmaa.Grants
