/- Texts of this proof, merged: ChanD, ChanE. -/
import Derived.Test.YtaaffebnajjfhaaGreatDoorM16
namespace Go.Proofs.YtaaffebnajjfhaaGreatDoor.T
set_option linter.unusedVariables false
set_option linter.unusedSimpArgs false
structure Rec where
  kind : Nat
  peer : Nat
  fin : Bool
  err : Int
  load : List Int
  link : Nat
def Rec.isSend (x : Rec) (j L : Nat) : Prop := x.link = L ∧ x.kind = 1 ∧ x.peer = j
instance (x : Rec) (j L : Nat) : Decidable (x.isSend j L) := by unfold Rec.isSend; infer_instance
def Rec.isGot (x : Rec) (i L : Nat) : Prop := x.link = L ∧ x.kind = 2 ∧ x.peer = i ∧ x.fin = true ∧ x.err = 0
instance (x : Rec) (j L : Nat) : Decidable (x.isGot j L) := by unfold Rec.isGot; infer_instance
abbrev Loads := List (List Int)
def sentF (j L : Nat) (s : Loads × Loads) (x : Rec) : Loads × Loads :=
  if x.isSend j L then (if x.fin = true ∧ x.err = 0 then (s.1 ++ [x.load], []) else if x.fin = false ∨ x.err = 8 then (s.1, s.2 ++ [x.load]) else s) else s
def sentOf (j L : Nat) (l : List Rec) : Loads × Loads := l.foldl (sentF j L) ([], [])
def gotOf (i L : Nat) (l : List Rec) : Loads := (l.filter fun x => decide (x.isGot i L)).map (·.load)
theorem sentOf_push (j L : Nat) (l : List Rec) (x : Rec) : sentOf j L (l ++ [x]) = sentF j L (sentOf j L l) x := by
  unfold sentOf; rw [List.foldl_append]; rfl
theorem gotOf_push (i L : Nat) (l : List Rec) (x : Rec) : gotOf i L (l ++ [x]) = if x.isGot i L then gotOf i L l ++ [x.load] else gotOf i L l := by
  unfold gotOf
  rw [List.filter_append]
  by_cases h : x.isGot i L
  · rw [if_pos h]; simp [h]
  · rw [if_neg h]; simp [h]
structure DL (i j L : Nat) (ll : Loads) (s g : Nat) (pi pj : List Rec) (sr : Loads) : Prop where
  sent : (sentOf j L pi).1 = ll.take s
  le : s ≤ ll.length
  more : ll.length ≤ s ∨ ll.length = s + 1 ∧ ll.getD s [] ∈ (sentOf j L pi).2 ++ sr
  got : gotOf i L pj = ll.take g
section
variable {i j L : Nat} {ll : Loads} {s g : Nat} {pi pj : List Rec} {sr sr' : Loads} {x : Rec}
theorem DL.weak (h : DL i j L ll s g pi pj sr) (hs : ∀ y ∈ sr, y ∈ sr') : DL i j L ll s g pi pj sr' :=
  ⟨h.sent, h.le, h.more.imp id (fun q => ⟨q.1, by
    rcases List.mem_append.1 q.2 with q | q
    · exact List.mem_append_left _ q
    · exact List.mem_append_right _ (hs _ q)⟩), h.got⟩
theorem DL.over (h : DL i j L ll s g pi pj sr) (h1 : ¬ (x.isSend j L ∧ x.fin = true ∧ x.err = 0)) (h2 : ∀ y ∈ sr, y ∈ sr' ∨ (x.isSend j L ∧ (x.fin = false ∨ x.err = 8) ∧ y = x.load)) : DL i j L ll s g (pi ++ [x]) pj sr' := by
  have e1 : (sentOf j L (pi ++ [x])).1 = (sentOf j L pi).1 ∧ ∀ y, y ∈ (sentOf j L pi).2 → y ∈ (sentOf j L (pi ++ [x])).2 := by
    rw [sentOf_push]
    unfold sentF
    by_cases hs : x.isSend j L
    · rw [if_pos hs, if_neg (fun q => h1 ⟨hs, q⟩)]
      split
      · exact ⟨rfl, fun y hy => List.mem_append_left _ hy⟩
      · exact ⟨rfl, fun y hy => hy⟩
    · rw [if_neg hs]; exact ⟨rfl, fun y hy => hy⟩
  refine ⟨by rw [e1.1]; exact h.sent, h.le, h.more.imp id (fun q => ⟨q.1, ?_⟩), h.got⟩
  rcases List.mem_append.1 q.2 with q | q
  · exact List.mem_append_left _ (e1.2 _ q)
  · rcases h2 _ q with q | ⟨q1, q2, q3⟩
    · exact List.mem_append_right _ q
    · refine List.mem_append_left _ ?_
      rw [sentOf_push]
      unfold sentF
      rw [if_pos q1, if_neg (fun r => h1 ⟨q1, r⟩), if_pos q2, q3]
      simp
theorem DL.sentOK (h : DL i j L ll s g pi pj sr) (h1 : x.isSend j L) (h2 : x.fin = true) (h3 : x.err = 0) (hl : ll.length = s + 1) (hx : ll.getD s [] = x.load) : DL i j L ll (s + 1) g (pi ++ [x]) pj sr' := by
  refine ⟨?_, by omega, .inl (by omega), h.got⟩
  rw [sentOf_push]
  unfold sentF
  rw [if_pos h1, if_pos ⟨h2, h3⟩]
  simp only
  rw [h.sent, List.take_succ_eq_append_getElem (by omega), ← hx]
  simp [List.getD, show s < ll.length by omega]
theorem DL.other (h : DL i j L ll s g pi pj sr) (h1 : ¬ x.isGot i L) : DL i j L ll s g pi (pj ++ [x]) sr :=
  ⟨h.sent, h.le, h.more, by rw [gotOf_push, if_neg h1]; exact h.got⟩
theorem DL.gotOK (h : DL i j L ll s g pi pj sr) (h1 : x.isGot i L) (hg : g < ll.length) (hx : ll.getD g [] = x.load) : DL i j L ll s (g + 1) pi (pj ++ [x]) sr := by
  refine ⟨h.sent, h.le, h.more, ?_⟩
  rw [gotOf_push, if_pos h1, h.got, List.take_succ_eq_append_getElem hg, ← hx]
  simp [List.getD, hg]
theorem DL.show_ (h : DL i j L ll s g pi pj sr) (hs : ll.length = s) (hg : g ≤ ll.length) (y : List Int) (hy : y ∈ sr') : DL i j L (ll ++ [y]) s g pi pj sr' := by
  refine ⟨by rw [h.sent, List.take_append_of_le_length (by omega)], by rw [List.length_append]; omega, .inr ⟨by rw [List.length_append, hs]; rfl, ?_⟩, by rw [h.got, List.take_append_of_le_length hg]⟩
  rw [← hs, getD_last]
  exact List.mem_append_right _ hy
end
def loadsOf (log : Log) : Loads := log.map fun x => x.2.map (Nat.cast : Nat → Int)
theorem loadsOf_len (log : Log) : (loadsOf log).length = log.length := by simp [loadsOf]
theorem loadsOf_get (log : Log) (k : Nat) (hk : k < log.length) : (loadsOf log).getD k [] = (log.getD k (0, [])).2.map (Nat.cast : Nat → Int) := by
  simp [loadsOf, List.getD, hk]
def srOf (j L : Nat) (g : Giv) (ci : Option Rec) : Loads :=
  match ci with
  | some x => if x.isSend j L ∧ g.shown then [x.load] else []
  | none => []
def Rec.ofG (x : Rec) (j : Nat) : Prop := x.kind = 1 ∧ x.peer = j
def Rec.ofT (x : Rec) (i : Nat) : Prop := (x.kind = 2 ∨ x.kind = 3) ∧ x.peer = i
structure Dg (i j a b : Nat) (gu tu : Bool) (g : Giv) (t : Tak) (G : Gho) (pi : List Rec) (ci : Option Rec) (pj : List Rec) (cj : Option Rec) : Prop where
  now : ∃ s, DL i j (a + b) (loadsOf G.log) s G.hd pi pj (srOf j (a + b) g ci) ∧ (gu = true → g.inn b → s = g.next)
  old : ∀ L, L < a + b → ∃ ll s h, DL i j L ll s h pi pj (srOf j L g ci)
  lki : ∀ x ∈ pi, x.ofG j → x.link ≤ a + b
  lkj : ∀ x ∈ pj, x.ofT i → x.link ≤ a + b
  rung : ∀ x, ci = some x → x.ofG j → gu = true ∧ g.pc ≠ 0 ∧ x.fin = false ∧ x.load = g.load.map (Nat.cast : Nat → Int) ∧ x.link ≤ a + b ∧ (x.link = a + b ∨ g.known ≠ (b : Int) ∨ g.pc = 2 ∨ g.pc = 3 ∨ g.pc = 4)
  idleg : gu = true → (∀ x, ci = some x → ¬ x.ofG j) → g.pc = 0
  runt : ∀ x, cj = some x → x.ofT i → tu = true ∧ t.pc ≠ 0 ∧ x.fin = false ∧ (x.kind = 3 ↔ t.back = true) ∧ x.link ≤ a + b ∧ (x.link = a + b ∨ t.known ≠ (a : Int) ∨ t.pc = 2 ∨ t.pc = 3 ∨ t.pc = 4)
  idlet : tu = true → (∀ x, cj = some x → ¬ x.ofT i) → t.pc = 0
end Go.Proofs.YtaaffebnajjfhaaGreatDoor.T
namespace Go.Proofs.YtaaffebnajjfhaaGreatDoor.T
set_option linter.unusedVariables false
set_option linter.unusedSimpArgs false
theorem gstep_load {g g' : Giv} {w e : Int} {d : Bool} (hs : GStep g w g' d e) : g'.load = g.load := by cases hs <;> rfl
theorem gstep_stay {g g' : Giv} {w e : Int} (hs : GStep g w g' false e) : g'.pc ≠ 0 ∧ (g.shown → g'.shown) ∧ (g'.shown → g.shown ∨ g.pc = 12) := by
  cases hs <;> grind [Giv.shown]
theorem gstep_end {g g' : Giv} {w e : Int} (hs : GStep g w g' true e) : g'.pc = 0 := by cases hs <;> rfl
theorem tstep_stay {t t' : Tak} {w e : Int} (hs : TStep t w t' false e) : t'.pc ≠ 0 ∧ t'.back = t.back := by
  cases hs <;> refine ⟨?_, rfl⟩ <;> simp only <;> omega
theorem tstep_end {t t' : Tak} {w e : Int} (hs : TStep t w t' true e) : t'.pc = 0 := by cases hs <;> rfl
section
variable {i j a b R : Nat} {gu tu : Bool} {g g' : Giv} {t t' : Tak} {G G' : Gho} {pi pj : List Rec} {ci cj : Option Rec} {w e : Int} {d : Bool} {x : Rec}
theorem sr_none {L : Nat} (h : ∀ x, ci = some x → ¬ x.ofG j) : srOf j L g ci = [] := by
  unfold srOf
  cases ci with
  | none => rfl
  | some x => exact if_neg (fun q => h x rfl ⟨q.1.2.1, q.1.2.2⟩)
theorem Dg.gstay (h : Dg i j a b true tu g t G pi ci pj cj) (hx : ci = some x) (hxj : x.ofG j) (hs : GStep g w g' false e) (wf : GWf a b R g) (h1 : g.pc = 1 ∨ g.pc = 15 → w = (b : Int)) (o0 : ¬ g.inn b → G.log = []) (nx : g.inn b → G.log.length = g.next + if g.shown then 1 else 0)
    (hlog : G'.log = G.log ∨ g.inn b ∧ g.pc = 12 ∧ G'.log = G.log ++ [(g.d, g.load)]) (hhd : G'.hd = G.hd) (hdl : G.hd ≤ G.log.length) : Dg i j a b true tu g' t G' pi ci pj cj := by
  obtain ⟨now, old, lki, lkj, rung, idleg, runt, idlet⟩ := h
  obtain ⟨s0, s1, s2⟩ := gstep_stay hs
  have hld := gstep_load hs
  obtain ⟨r1, r2, r3, r4, r5, r6⟩ := rung x hx hxj
  have hsr : ∀ L, ∀ y ∈ srOf j L g ci, y ∈ srOf j L g' ci := by
    intro L y hy
    rw [hx] at hy ⊢
    simp only [srOf] at hy ⊢
    by_cases q : x.isSend j L ∧ g.shown
    · rw [if_pos q] at hy
      rw [if_pos ⟨q.1, s1 q.2⟩]
      exact hy
    · rw [if_neg q] at hy
      cases hy
  refine ⟨?_, fun L hL => ?_, lki, lkj, fun y hy hyj => ?_, fun _ q => absurd hxj (q x hx), runt, idlet⟩
  · obtain ⟨s, hdl', hsn⟩ := now
    have hnext : g.inn b → g'.next = g.next := by
      intro _
      cases hs <;> rfl
    have hnew : ¬ g.inn b → g'.inn b → g'.next = 0 := by
      intro q q'
      have := wf.wfF
      have := wf.wf6
      have := wf.pcm
      cases hs <;> simp only [Giv.inn] at * <;> grind
    rcases hlog with hl | ⟨l1, l2, l3⟩
    · rw [hl, hhd]
      refine ⟨s, hdl'.weak (hsr _), fun _ q => ?_⟩
      by_cases qi : g.inn b
      · rw [hnext qi]; exact hsn rfl qi
      · have h0 := hdl'.le
        rw [o0 qi] at h0
        rw [hnew qi q]
        simp [loadsOf] at h0
        exact h0
    · have hs1 := hsn rfl l1
      have hnx := nx l1
      have hnsh : ¬ g.shown := by simp only [Giv.shown]; omega
      rw [if_neg hnsh] at hnx
      have hV : x.link = a + b := by
        have := l1.2.1
        omega
      have hsh' : g'.shown := by
        cases hs <;> simp only [Giv.shown] <;> omega
      rw [l3, hhd]
      have e1 : loadsOf (G.log ++ [(g.d, g.load)]) = loadsOf G.log ++ [x.load] := by simp [loadsOf, r4]
      rw [e1]
      refine ⟨s, hdl'.show_ (by rw [loadsOf_len]; omega) (by rw [loadsOf_len]; exact hdl) _ ?_, fun _ _ => by rw [hnext l1]; exact hs1⟩
      rw [hx]
      simp only [srOf]
      rw [if_pos ⟨⟨hV, hxj.1, hxj.2⟩, hsh'⟩]
      simp
  · obtain ⟨ll, s, k, q⟩ := old L hL
    exact ⟨ll, s, k, q.weak (hsr L)⟩
  · rw [hx] at hy
    injection hy with hy
    subst hy
    refine ⟨rfl, s0, r3, by rw [hld]; exact r4, r5, ?_⟩
    have := wf.pcm
    cases hs <;> grind
theorem Dg.gend (h : Dg i j a b true tu g t G pi ci pj cj) (hx : ci = some x) (hxj : x.ofG j) (hs : GStep g w g' true e) (wf : GWf a b R g) (h1 : g.pc = 1 ∨ g.pc = 15 → w = (b : Int)) (nx : g.inn b → G.log.length = g.next + if g.shown then 1 else 0) (hsh : g.inn b → g.shown → (G.log.getD g.next (0, [])).2 = g.load)
    (hlim : G.log.length < 60000) (hlog : G'.log = G.log) (hhd : G'.hd = G.hd) (y : Rec) (hy : y = { x with fin := true, err := e }) : Dg i j a b true tu g' t G' (pi ++ [y]) none pj cj := by
  obtain ⟨now, old, lki, lkj, rung, idleg, runt, idlet⟩ := h
  have s0 := gstep_end hs
  obtain ⟨r1, r2, r3, r4, r5, r6⟩ := rung x hx hxj
  have hyl : y.link = x.link := by rw [hy]
  have hyk : y.kind = x.kind := by rw [hy]
  have hyp : y.peer = x.peer := by rw [hy]
  have hyf : y.fin = true := by rw [hy]
  have hye : y.err = e := by rw [hy]
  have hyo : y.load = x.load := by rw [hy]
  have hys : ∀ L, y.isSend j L ↔ x.isSend j L := fun L => by simp only [Rec.isSend, hyl, hyk, hyp]
  have hend : g.shown → e = 8 ∨ e = 0 := by
    intro q
    simp only [Giv.shown] at q
    cases hs <;> grind
  have hok : e = 0 → g.inn b ∧ g.shown ∧ x.link = a + b ∧ g'.next = g.next + 1 ∧ g'.inn b := by
    intro q
    have hw6 := wf.wf6
    have han := wf.ans
    cases hs with
    | settle p => omega
    | down p q' => omega
    | reset p q' => omega
    | sent p q' r =>
      have hk := h1 (.inr p)
      have hi : g.inn b := ⟨hw6 (by omega), by omega, by omega, by omega, by omega⟩
      have hs' : g.shown := .inr (.inr ⟨p, r⟩)
      have := nx hi
      rw [if_pos hs'] at this
      refine ⟨hi, hs', by omega, ?_, hi.1, hi.2.1, by simp, by simp, by simp⟩
      show (g.next + 1) % 65536 = _
      omega
    | told p q' r => exact absurd q r
  have hnon : e ≠ 0 → ∀ L ll s k, DL i j L ll s k pi pj (srOf j L g ci) → DL i j L ll s k (pi ++ [y]) pj (srOf j L g' none) := by
    intro q L ll s k hd
    refine hd.over (fun r => q (by rw [← hye]; exact r.2.2)) (fun z hz => .inr ?_)
    rw [hx] at hz
    simp only [srOf] at hz
    by_cases hc : x.isSend j L ∧ g.shown
    · rw [if_pos hc] at hz
      refine ⟨(hys L).2 hc.1, .inr ?_, by rw [hyo]; simpa using hz⟩
      rw [hye]
      rcases hend hc.2 with r | r
      · exact r
      · exact absurd r q
    · rw [if_neg hc] at hz; cases hz
  refine ⟨?_, fun L hL => ?_, fun z hz hzj => ?_, lkj, fun z hz => (by cases hz), fun _ _ => s0, runt, idlet⟩
  · obtain ⟨s, hdl', hsn⟩ := now
    rw [hlog, hhd]
    by_cases he : e = 0
    · obtain ⟨o1, o2, o3, o4, o5⟩ := hok he
      have hs1 := hsn rfl o1
      have hnx := nx o1
      rw [if_pos o2] at hnx
      refine ⟨s + 1, hdl'.sentOK ((hys _).2 ⟨o3, hxj.1, hxj.2⟩) hyf (by rw [hye]; exact he) (by rw [loadsOf_len]; omega) ?_, fun _ _ => by omega⟩
      rw [loadsOf_get _ _ (by omega), hs1, hsh o1 o2, hyo, r4]
    · refine ⟨s, hnon he _ _ _ _ hdl', fun _ q => ?_⟩
      have : g.inn b ∧ g'.next = g.next := by
        have hw6 := wf.wf6
        cases hs <;> simp only [Giv.inn] at * <;> grind
      rw [this.2]
      exact hsn rfl this.1
  · obtain ⟨ll, s, k, q⟩ := old L hL
    by_cases he : e = 0
    · obtain ⟨o1, o2, o3, o4, o5⟩ := hok he
      refine ⟨ll, s, k, q.over (fun r => by have := r.1.1; omega) (fun z hz => ?_)⟩
      rw [hx] at hz
      simp only [srOf] at hz
      rw [if_neg (fun r => by have := r.1.1; omega)] at hz
      cases hz
    · exact ⟨ll, s, k, hnon he _ _ _ _ q⟩
  · rcases List.mem_append.1 hz with hz | hz
    · exact lki z hz hzj
    · rw [List.mem_singleton.1 hz, hyl]; exact r5
theorem Dg.iother (h : Dg i j a b gu tu g t G pi ci pj cj) (hc : ∀ x, ci = some x → ¬ x.ofG j) (y : Rec) (hy : ¬ y.ofG j) (ci' : Option Rec) (hc' : ∀ x, ci' = some x → ¬ x.ofG j) : Dg i j a b gu tu g t G (pi ++ [y]) ci' pj cj := by
  obtain ⟨now, old, lki, lkj, rung, idleg, runt, idlet⟩ := h
  have hdl : ∀ L ll s k, DL i j L ll s k pi pj (srOf j L g ci) → DL i j L ll s k (pi ++ [y]) pj (srOf j L g ci') := by
    intro L ll s k q
    refine q.over (fun r => hy ⟨r.1.2.1, r.1.2.2⟩) (fun z hz => ?_)
    rw [sr_none hc] at hz
    cases hz
  refine ⟨?_, fun L hL => ?_, fun z hz hzj => ?_, lkj, fun z hz hzj => absurd hzj (hc' z hz), fun q _ => idleg q hc, runt, idlet⟩
  · obtain ⟨s, q, r⟩ := now
    exact ⟨s, hdl _ _ _ _ q, r⟩
  · obtain ⟨ll, s, k, q⟩ := old L hL
    exact ⟨ll, s, k, hdl _ _ _ _ q⟩
  · rcases List.mem_append.1 hz with hz | hz
    · exact lki z hz hzj
    · rw [List.mem_singleton.1 hz] at hzj; exact absurd hzj hy
theorem Dg.ibegin (h : Dg i j a b gu tu g t G pi ci pj cj) (hc : ∀ x, ci = some x → ¬ x.ofG j) (ci' : Option Rec) (hc' : ∀ x, ci' = some x → ¬ x.ofG j) : Dg i j a b gu tu g t G pi ci' pj cj := by
  obtain ⟨now, old, lki, lkj, rung, idleg, runt, idlet⟩ := h
  refine ⟨?_, fun L hL => ?_, lki, lkj, fun z hz hzj => absurd hzj (hc' z hz), fun q _ => idleg q hc, runt, idlet⟩
  · obtain ⟨s, q, r⟩ := now
    rw [sr_none hc] at q
    exact ⟨s, by rw [sr_none hc']; exact q, r⟩
  · obtain ⟨ll, s, k, q⟩ := old L hL
    rw [sr_none hc] at q
    exact ⟨ll, s, k, by rw [sr_none hc']; exact q⟩
theorem Dg.gbegin (h : Dg i j a b true tu g t G pi ci pj cj) (hc : ∀ x, ci = some x → ¬ x.ofG j) (l : List Nat) (x : Rec) (hx : x.ofG j) (h1 : x.fin = false) (h2 : x.load = l.map (Nat.cast : Nat → Int)) (h3 : x.link = a + b) (h0 : g.pc = 0) : Dg i j a b true tu { g with load := l, pc := 1 } t G pi (some x) pj cj := by
  obtain ⟨now, old, lki, lkj, rung, idleg, runt, idlet⟩ := h
  have hsr : ∀ L, srOf j L { g with load := l, pc := 1 } (some x) = [] := fun L => by
    simp only [srOf]
    exact if_neg (fun q => by simp [Giv.shown] at q)
  refine ⟨?_, fun L hL => ?_, lki, lkj, fun z hz hzj => ?_, fun _ q => absurd hx (q x rfl), runt, idlet⟩
  · obtain ⟨s, q, r⟩ := now
    rw [sr_none hc] at q
    refine ⟨s, by rw [hsr]; exact q, fun q1 q2 => r q1 ?_⟩
    simp only [Giv.inn] at q2 ⊢
    exact ⟨q2.1, q2.2.1, by omega, by omega, by omega⟩
  · obtain ⟨ll, s, k, q⟩ := old L hL
    rw [sr_none hc] at q
    exact ⟨ll, s, k, by rw [hsr]; exact q⟩
  · injection hz with hz
    subst hz
    exact ⟨rfl, by simp, h1, h2, by omega, .inl h3⟩
theorem Dg.ihold (h : Dg i j a b gu tu g t G pi ci pj cj) (hf : ∀ x, ci = some x → x.fin = false) (hhd : G'.log = G.log ∧ G'.hd = G.hd) : Dg i j a b false tu g t G' (pi ++ ci.toList) none pj cj := by
  cases ci with
  | none =>
    obtain ⟨now, old, lki, lkj, rung, idleg, runt, idlet⟩ := h
    rw [Option.toList_none, List.append_nil]
    refine ⟨?_, old, lki, lkj, fun z hz => (by cases hz), fun q => (by cases q), runt, idlet⟩
    obtain ⟨s, q, r⟩ := now
    exact ⟨s, by rw [hhd.1, hhd.2]; exact q, fun q => (by cases q)⟩
  | some x =>
    obtain ⟨now, old, lki, lkj, rung, idleg, runt, idlet⟩ := h
    have hxf := hf x rfl
    have hdl : ∀ L ll s k, DL i j L ll s k pi pj (srOf j L g (some x)) → DL i j L ll s k (pi ++ [x]) pj (srOf j L g none) := by
      intro L ll s k q
      refine q.over (fun r => by rw [hxf] at r; cases r.2.1) (fun z hz => ?_)
      simp only [srOf] at hz
      by_cases hc : x.isSend j L ∧ g.shown
      · rw [if_pos hc] at hz
        exact .inr ⟨hc.1, .inl hxf, by simpa using hz⟩
      · rw [if_neg hc] at hz; cases hz
    refine ⟨?_, fun L hL => ?_, fun z hz hzj => ?_, lkj, fun z hz => (by cases hz), fun q => (by cases q), runt, idlet⟩
    · obtain ⟨s, q, r⟩ := now
      exact ⟨s, by rw [hhd.1, hhd.2]; exact hdl _ _ _ _ q, fun q => (by cases q)⟩
    · obtain ⟨ll, s, k, q⟩ := old L hL
      exact ⟨ll, s, k, hdl _ _ _ _ q⟩
    · rcases List.mem_append.1 hz with hz | hz
      · exact lki z hz hzj
      · rw [List.mem_singleton.1 hz] at hzj ⊢
        exact (rung x rfl hzj).2.2.2.2.1
theorem sentOf_new {L : Nat} (h : ∀ x ∈ pi, x.ofG j → x.link < L) : sentOf j L pi = ([], []) := by
  unfold sentOf
  have : ∀ (l : List Rec), (∀ x ∈ l, x.ofG j → x.link < L) → ∀ s, l.foldl (sentF j L) s = s := by
    intro l
    induction l with
    | nil => intro _ s; rfl
    | cons y l ih =>
      intro hl s
      rw [List.foldl_cons]
      have e : sentF j L s y = s := by
        unfold sentF
        exact if_neg (fun q => by have := hl y (by simp) ⟨q.2.1, q.2.2⟩; have := q.1; omega)
      rw [e]
      exact ih (fun x hx => hl x (List.mem_cons_of_mem _ hx)) s
  exact this pi h _
theorem gotOf_new {L : Nat} (h : ∀ x ∈ pj, x.ofT i → x.link < L) : gotOf i L pj = [] := by
  unfold gotOf
  rw [List.map_eq_nil_iff, List.filter_eq_nil_iff]
  intro x hx
  simp only [decide_eq_true_eq]
  intro q
  have := h x hx ⟨.inl q.2.1, q.2.2.1⟩
  have := q.1
  omega
theorem Dg.old_next (h : Dg i j a b gu tu g t G pi ci pj cj) (L : Nat) (hL : L < a + b + 1) : ∃ ll s k, DL i j L ll s k pi pj (srOf j L g ci) := by
  by_cases e : L = a + b
  · subst e
    obtain ⟨s, q, _⟩ := h.now
    exact ⟨_, s, _, q⟩
  · exact h.old L (by omega)
theorem Dg.now_next (h : Dg i j a b gu tu g t G pi ci pj cj) (g' : Giv) (hsr : ∀ x, ci = some x → x.ofG j → x.link ≤ a + b) : DL i j (a + b + 1) (loadsOf Gho.none_.log) 0 Gho.none_.hd pi pj (srOf j (a + b + 1) g' ci) := by
  have hs : srOf j (a + b + 1) g' ci = [] := by
    unfold srOf
    cases ci with
    | none => rfl
    | some x => exact if_neg (fun q => by have := hsr x rfl ⟨q.1.2.1, q.1.2.2⟩; have := q.1.1; omega)
  rw [hs]
  refine ⟨?_, Nat.le_refl _, .inl (Nat.le_refl _), ?_⟩
  · rw [sentOf_new (fun x hx hxj => by have := h.lki x hx hxj; omega)]; rfl
  · rw [gotOf_new (fun x hx hxj => by have := h.lkj x hx hxj; omega)]; rfl
theorem Dg.istart (h : Dg i j a b false tu g t G pi none pj cj) (hg : g'.New (a + 1) R) (hk : tu = true → t.known ≤ (a : Int)) : Dg i j (a + 1) b true tu g' t Gho.none_ pi none pj cj := by
  have hV : a + 1 + b = a + b + 1 := by omega
  have hsr : ∀ L (g : Giv), srOf j L g none = [] := fun L g => rfl
  refine ⟨⟨0, ?_, fun _ q => ?_⟩, fun L hL => ?_, fun x hx hxj => ?_, fun x hx hxj => ?_, fun x hx => (by cases hx), fun _ _ => hg.pc, fun x hx hxj => ?_, h.idlet⟩
  · rw [hV]; exact h.now_next g' (fun x hx => by cases hx)
  · have := q.1; rw [hg.linked] at this; cases this
  · exact h.old_next L (by omega)
  · have := h.lki x hx hxj; omega
  · have := h.lkj x hx hxj; omega
  · obtain ⟨q1, q2, q3, q4, q5, q6⟩ := h.runt x hx hxj
    have := hk q1
    exact ⟨q1, q2, q3, q4, by omega, .inr (.inl (by omega))⟩
theorem Dg.jstart (h : Dg i j a b gu false g t G pi ci pj none) (ht : t'.New (b + 1) R) (hk : gu = true → g.known ≤ (b : Int)) : Dg i j a (b + 1) gu true g t' Gho.none_ pi ci pj none := by
  have hV : a + (b + 1) = a + b + 1 := by omega
  refine ⟨⟨0, ?_, fun q1 q => ?_⟩, fun L hL => ?_, fun x hx hxj => ?_, fun x hx hxj => ?_, fun x hx hxj => ?_, h.idleg, fun x hx => (by cases hx), fun _ _ => ht.pc⟩
  · rw [hV]; exact h.now_next g (fun x hx hxj => (h.rung x hx hxj).2.2.2.2.1)
  · have := hk q1; have := q.2.1; omega
  · exact h.old_next L (by omega)
  · have := h.lki x hx hxj; omega
  · have := h.lkj x hx hxj; omega
  · obtain ⟨q1, q2, q3, q4, q5, q6⟩ := h.rung x hx hxj
    have := hk q1
    exact ⟨q1, q2, q3, q4, by omega, .inr (.inl (by omega))⟩
theorem Dg.tstay (h : Dg i j a b gu true g t G pi ci pj cj) (hx : cj = some x) (hxj : x.ofT i) (hs : TStep t w t' false e) (wf : TWf a b R t) (h1 : t.pc = 1 ∨ t.pc = 14 → w = (a : Int)) (hhd : G'.log = G.log ∧ G'.hd = G.hd) : Dg i j a b gu true g t' G' pi ci pj cj := by
  obtain ⟨now, old, lki, lkj, rung, idleg, runt, idlet⟩ := h
  obtain ⟨s0, s1⟩ := tstep_stay hs
  obtain ⟨r1, r2, r3, r4, r5, r6⟩ := runt x hx hxj
  refine ⟨by rw [hhd.1, hhd.2]; exact now, old, lki, lkj, rung, idleg, fun y hy hyj => ?_, fun _ q => absurd hxj (q x hx)⟩
  rw [hx] at hy
  injection hy with hy
  subst hy
  refine ⟨rfl, s0, r3, by rw [s1]; exact r4, r5, ?_⟩
  have := wf.pcm
  cases hs <;> grind
theorem Dg.tend (h : Dg i j a b gu true g t G pi ci pj cj) (hx : cj = some x) (hxj : x.ofT i) (hs : TStep t w t' true e) (wf : TWf a b R t) (h1 : t.pc = 1 ∨ t.pc = 14 → w = (a : Int)) (hl : t.inn a → t.read → t.load = (G.log.getD G.hd (0, [])).2)
    (hlog : G'.log = G.log) (hhd : G'.hd = G.hd ∧ ¬ (t.inn a ∧ t.read ∧ true = true) ∨ t.inn a ∧ t.read ∧ e = 0 ∧ G.hd < G.log.length ∧ G'.hd = G.hd + 1) (y : Rec) (hy1 : y.kind = x.kind) (hy2 : y.peer = x.peer) (hy3 : y.fin = true) (hy4 : y.err = e) (hy5 : x.kind = 2 → e = 0 → y.load = t.load.map (Nat.cast : Nat → Int)) (hy6 : y.link = x.link) : Dg i j a b gu true g t' G' pi ci (pj ++ [y]) none := by
  obtain ⟨now, old, lki, lkj, rung, idleg, runt, idlet⟩ := h
  have s0 := tstep_end hs
  obtain ⟨r1, r2, r3, r4, r5, r6⟩ := runt x hx hxj
  have hgot : ∀ L, y.isGot i L → t.inn a ∧ t.read ∧ L = a + b := by
    rintro L ⟨q1, q2, q3, q4, q5⟩
    rw [hy4] at q5
    rw [hy1] at q2
    have hb : t.back = false := by
      cases hb : t.back with
      | false => rfl
      | true => have := r4.2 hb; omega
    have hw6 := wf.wf6
    cases hs with
    | settle p => omega
    | down p q' => omega
    | reset p q' => omega
    | told p q' r => exact absurd q5 r
    | freed p q' r s => rw [s] at hb; cases hb
    | came p q' r s =>
      have hk := h1 (.inr p)
      exact ⟨⟨hw6 (by omega), by omega, by omega, by omega, by omega⟩, ⟨p, s, r⟩, by omega⟩
  refine ⟨?_, fun L hL => ?_, lki, fun z hz hzj => ?_, rung, idleg, fun z hz => (by cases hz), fun _ _ => s0⟩
  · obtain ⟨s, q, r⟩ := now
    rcases hhd with ⟨h2, h3⟩ | ⟨h2, h3, h4, h5, h6⟩
    · rw [hlog, h2]
      exact ⟨s, q.other (fun q' => h3 ⟨(hgot _ q').1, (hgot _ q').2.1, rfl⟩), r⟩
    · rw [hlog, h6]
      have hk2 : x.kind = 2 := by
        rcases hxj.1 with k | k
        · exact k
        · have := r4.1 k
          rw [h3.2.1] at this; cases this
      have hV : x.link = a + b := by
        have := h2.2.1
        have := h3.1
        omega
      refine ⟨s, q.gotOK ⟨by rw [hy6]; exact hV, by rw [hy1]; exact hk2, by rw [hy2]; exact hxj.2, hy3, by rw [hy4]; exact h4⟩ (by rw [loadsOf_len]; exact h5) ?_, r⟩
      rw [loadsOf_get _ _ h5, hy5 hk2 h4, hl h2 h3]
  · obtain ⟨ll, s, k, q⟩ := old L hL
    exact ⟨ll, s, k, q.other (fun q' => by have := (hgot _ q').2.2; omega)⟩
  · rcases List.mem_append.1 hz with hz | hz
    · exact lkj z hz hzj
    · rw [List.mem_singleton.1 hz, hy6]; exact r5
theorem Dg.jother (h : Dg i j a b gu tu g t G pi ci pj cj) (hc : ∀ x, cj = some x → ¬ x.ofT i) (y : Rec) (hy : ¬ y.ofT i) (cj' : Option Rec) (hc' : ∀ x, cj' = some x → ¬ x.ofT i) : Dg i j a b gu tu g t G pi ci (pj ++ [y]) cj' := by
  obtain ⟨now, old, lki, lkj, rung, idleg, runt, idlet⟩ := h
  have hng : ∀ L, ¬ y.isGot i L := fun L q => hy ⟨.inl q.2.1, q.2.2.1⟩
  refine ⟨?_, fun L hL => ?_, lki, fun z hz hzj => ?_, rung, idleg, fun z hz hzj => absurd hzj (hc' z hz), fun q _ => idlet q hc⟩
  · obtain ⟨s, q, r⟩ := now
    exact ⟨s, q.other (hng _), r⟩
  · obtain ⟨ll, s, k, q⟩ := old L hL
    exact ⟨ll, s, k, q.other (hng _)⟩
  · rcases List.mem_append.1 hz with hz | hz
    · exact lkj z hz hzj
    · rw [List.mem_singleton.1 hz] at hzj; exact absurd hzj hy
theorem Dg.jbegin (h : Dg i j a b gu tu g t G pi ci pj cj) (hc : ∀ x, cj = some x → ¬ x.ofT i) (cj' : Option Rec) (hc' : ∀ x, cj' = some x → ¬ x.ofT i) : Dg i j a b gu tu g t G pi ci pj cj' :=
  ⟨h.now, h.old, h.lki, h.lkj, h.rung, h.idleg, fun z hz hzj => absurd hzj (hc' z hz), fun q _ => h.idlet q hc⟩
theorem Dg.tbegin (h : Dg i j a b gu true g t G pi ci pj cj) (hc : ∀ x, cj = some x → ¬ x.ofT i) (x : Rec) (hx : x.ofT i) (h1 : x.fin = false) (h2 : x.kind = 3 ↔ t'.back = true) (h3 : x.link = a + b) (h0 : t'.pc = 1) : Dg i j a b gu true g t' G pi ci pj (some x) :=
  ⟨h.now, h.old, h.lki, h.lkj, h.rung, h.idleg, fun z hz hzj => by injection hz with hz; subst hz; exact ⟨rfl, by omega, h1, h2, by omega, .inl h3⟩, fun _ q => absurd hx (q x rfl)⟩
theorem Dg.jhold (h : Dg i j a b gu tu g t G pi ci pj cj) (hf : ∀ x, cj = some x → x.fin = false) : Dg i j a b gu false g t G pi ci (pj ++ cj.toList) none := by
  cases cj with
  | none =>
    rw [Option.toList_none, List.append_nil]
    exact ⟨h.now, h.old, h.lki, h.lkj, h.rung, h.idleg, fun z hz => (by cases hz), fun q => (by cases q)⟩
  | some x =>
    obtain ⟨now, old, lki, lkj, rung, idleg, runt, idlet⟩ := h
    have hxf := hf x rfl
    have hng : ∀ L, ¬ x.isGot i L := fun L q => by have := q.2.2.2.1; rw [hxf] at this; cases this
    refine ⟨?_, fun L hL => ?_, lki, fun z hz hzj => ?_, rung, idleg, fun z hz => (by cases hz), fun q => (by cases q)⟩
    · obtain ⟨s, q, r⟩ := now
      exact ⟨s, q.other (hng _), r⟩
    · obtain ⟨ll, s, k, q⟩ := old L hL
      exact ⟨ll, s, k, q.other (hng _)⟩
    · rcases List.mem_append.1 hz with hz | hz
      · exact lkj z hz hzj
      · rw [List.mem_singleton.1 hz] at hzj ⊢
        exact (runt x rfl hzj).2.2.2.2.1
theorem Dg.first (hg : g.New 0 R) (ht : t.New 0 R) : Dg i j 0 0 true true g t Gho.none_ [] none [] none :=
  ⟨⟨0, ⟨rfl, Nat.le_refl _, .inl (Nat.le_refl _), rfl⟩, fun _ q => by have := q.1; rw [hg.linked] at this; cases this⟩, fun L hL => by omega, fun x hx => (by cases hx), fun x hx => (by cases hx), fun x hx => (by cases hx), fun _ _ => hg.pc, fun x hx => (by cases hx), fun _ _ => ht.pc⟩
end
end Go.Proofs.YtaaffebnajjfhaaGreatDoor.T
