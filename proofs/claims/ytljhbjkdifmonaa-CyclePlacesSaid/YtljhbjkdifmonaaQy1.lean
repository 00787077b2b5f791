import Derived.Test.YtljhbjkdifmonaaQy0
-- Laid by a program of this session.
namespace Go.Proofs.YtljhbjkdifmonaaX.Q
open Go.RowKit Go.Proofs.YtljhbjkdifmonaaW.PrintWords Go.Proofs.YtljhbjkdifmonaaW.PrintLast Go.Proofs.YtljhbjkdifmonaaW.PrintMore
attribute [local go_sem] max2_int min2_int max_two min_two max_three min_three max_four min_four   -- for this text's walks alone
set_option linter.unusedVariables false
set_option linter.unusedSimpArgs false

/-! ### cycle_Check: function 19 -/
def cycle_Check.f (a0_0 : Int) (a0_1 : Int) (a0_2 : Int) : Option (Int) := some (Pq.chk ⟨a0_0, a0_1, a0_2⟩)
theorem cycle_Check.calls (a0_0 : Int) (a0_1 : Int) (a0_2 : Int) (r : Int) (w : World) (h : cycle_Check.f a0_0 a0_1 a0_2 = some r) :
    Calls Try.prog 19 #[.agg #[.int .i64 a0_0, .int .i64 a0_1, .int .i64 a0_2]] w fun e w' => e = .returned (.int .i64 r) ∧ Below w.heap.size w w' := by
  simp only [cycle_Check.f, Option.some.injEq] at h
  subst h
  exact Ytljhbjkdifmonaa.check_any ⟨a0_0, a0_1, a0_2⟩ w


/-! ### cycle_root: function 45 -/
def cycle_root.f (a0 : Int) : Option (Int) := if 0 ≤ a0 ∧ a0 < 4611686018427387904 then some (Pq.rt a0) else none
theorem cycle_root.calls (a0 : Int) (r : Int) (w : World) (h : cycle_root.f a0 = some r) :
    Calls Try.prog 45 #[.int .i64 a0] w fun e w' => e = .returned (.int .i64 r) ∧ Drawn0 w w' := by
  unfold cycle_root.f at h
  split at h
  · rename_i hb
    simp only [Option.some.injEq] at h
    subst h
    exact (Ytljhbjkdifmonaa.root_any a0 (Pq.rt a0) w hb.1 hb.2 (Pq.rt_root hb.1)).mono fun e w' h => ⟨h.1, h.2 ▸ ⟨0, rfl⟩⟩
  · cases h


/-! ### cycle_disc: function 57 -/
def cycle_disc.f (a0_0 : Int) (a0_1 : Int) (a0_2 : Int) : Option (Int) := if Pq.inB ⟨a0_0, a0_1, a0_2⟩ = true then some (Pq.Bin.disc ⟨a0_0, a0_1, a0_2⟩) else none
theorem cycle_disc.calls (a0_0 : Int) (a0_1 : Int) (a0_2 : Int) (r : Int) (w : World) (h : cycle_disc.f a0_0 a0_1 a0_2 = some r) :
    Calls Try.prog 57 #[.agg #[.int .i64 a0_0, .int .i64 a0_1, .int .i64 a0_2]] w fun e w' => e = .returned (.int .i64 r) ∧ Below w.heap.size w w' := by
  unfold cycle_disc.f at h
  split at h
  · rename_i hb
    simp only [Option.some.injEq] at h
    subst h
    exact Ytljhbjkdifmonaa.discf_any ⟨a0_0, a0_1, a0_2⟩ w (Pq.inB_true hb)
  · cases h


/-! ### cycle_next: function 58 -/
def cycle_next.f (a0_0 : Int) (a0_1 : Int) (a0_2 : Int) (a1 : Int) (a2 : Int) : Option (Int × Int × Int × Int × Int × Int × Int) := if Pq.inB ⟨a0_0, a0_1, a0_2⟩ = true ∧ Pq.crossB a1 = true ∧ a2 = Pq.rt a1 ∧ Pq.Bin.disc ⟨a0_0, a0_1, a0_2⟩ = a1 then some ((Pq.nxt a1 a2 ⟨a0_0, a0_1, a0_2⟩).a, (Pq.nxt a1 a2 ⟨a0_0, a0_1, a0_2⟩).b, (Pq.nxt a1 a2 ⟨a0_0, a0_1, a0_2⟩).c, 0, -1, 1, Ytljhbjkdifmonaa.turnN a2 ⟨a0_0, a0_1, a0_2⟩) else none
theorem cycle_next.calls (a0_0 : Int) (a0_1 : Int) (a0_2 : Int) (a1 : Int) (a2 : Int) (r1 : Int) (r2 : Int) (r3 : Int) (r4 : Int) (r5 : Int) (r6 : Int) (r7 : Int) (w : World) (h : cycle_next.f a0_0 a0_1 a0_2 a1 a2 = some (r1, r2, r3, r4, r5, r6, r7)) :
    Calls Try.prog 58 #[.agg #[.int .i64 a0_0, .int .i64 a0_1, .int .i64 a0_2], .int .i64 a1, .int .i64 a2] w fun e w' => e = .returned (.tuple #[.agg #[.int .i64 r1, .int .i64 r2, .int .i64 r3], .agg #[.int .i64 r4, .int .i64 r5, .int .i64 r6, .int .i64 r7]]) ∧ Below w.heap.size w w' := by
  unfold cycle_next.f at h
  split at h
  · rename_i hb
    obtain ⟨h1, h2, h3, h4⟩ := hb
    simp only [Option.some.injEq, Prod.mk.injEq] at h
    obtain ⟨rfl, rfl, rfl, rfl, rfl, rfl, rfl⟩ := h
    obtain ⟨c1, c2, _⟩ := Pq.crossB_true h2
    exact Ytljhbjkdifmonaa.next_any ⟨a0_0, a0_1, a0_2⟩ a1 a2 w (Pq.inB_true h1) (h3 ▸ c1) c2 h4
  · cases h


end Go.Proofs.YtljhbjkdifmonaaX.Q
