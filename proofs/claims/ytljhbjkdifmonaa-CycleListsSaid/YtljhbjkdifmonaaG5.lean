/- cycle.Next at one form; cycle.Cycle of a form that is let in; slices.Index and slices.Contains. -/
import Derived.Test.YtljhbjkdifmonaaQy2
import Derived.Test.YtljhbjkdifmonaaG3
import Derived.Test.YtljhbjkdifmonaaG4
import Derived.Test.YtljhbjkdifmonaaG1
import Derived.OneCell
namespace Go.Proofs.Ytljhbjkdifmonaa
open Go.RowKit Pq

theorem next_w_pure : YtljhbjkdifmonaaX.Q.cycle_Next.f 1 0 (-2) = some (-2, 0, 1, 0, -1, 1, 0, 0) := by kernel_rfl
theorem next_w (w : World) : Calls Try.prog 56 #[.agg #[.int .i64 1, .int .i64 0, .int .i64 (-2)]] w fun e w' => e = .returned (.tuple #[.agg #[.int .i64 (-2), .int .i64 0, .int .i64 1], .agg #[.int .i64 0, .int .i64 (-1), .int .i64 1, .int .i64 0], .int .i64 0]) ∧ Below w.heap.size w w' :=
  YtljhbjkdifmonaaX.Q.cycle_Next.calls 1 0 (-2) _ _ _ _ _ _ _ _ w next_w_pure

set_option maxRecDepth 100000 in
set_option maxHeartbeats 2000000 in
theorem cycle_calls (f g : Bin) (T : Trn) (l : List Bin) (N : Nat) (w : World)
    (hr : ∀ W, Calls Try.prog 17 #[.agg #[.int .i64 f.a, .int .i64 f.b, .int .i64 f.c]] W fun e w' => e = .returned (.tuple #[.agg #[.int .i64 g.a, .int .i64 g.b, .int .i64 g.c], .agg #[.int .i64 T.p, .int .i64 T.q, .int .i64 T.r, .int .i64 T.s], .int .i64 0]) ∧ Below W.heap.size W w')
    (hc : ∀ W, Calls Try.prog 50 #[.agg #[.int .i64 g.a, .int .i64 g.b, .int .i64 g.c]] W fun e w' => ∃ v, e = .returned (.tuple #[v, .bool false]) ∧ w'.ownsRow W.heap.size 23 3 v N (rowOf l) ∧ Below W.heap.size W w') :
    Calls Try.prog 55 #[.agg #[.int .i64 f.a, .int .i64 f.b, .int .i64 f.c]] w fun e w' => ∃ v, e = .returned (.tuple #[v, .int .i64 0]) ∧ w'.ownsRow w.heap.size 23 3 v N (rowOf l) ∧ Below w.heap.size w w' := by
  obtain ⟨fa, fb, fc⟩ := f
  obtain ⟨ga, gb, gc⟩ := g
  obtain ⟨p, q, r, s⟩ := T
  simp only at hr hc ⊢
  go_enter Try.func55, Try.ntmps55
  go_wp2_with (first
    | (go_at_call 17; refine (hr _).mono ?_; rintro e w1 ⟨rfl, hb1⟩; obtain ⟨hc1, hf1⟩ := bcell hb1
       have hs1 := hb1.size
       simp only [World.size_alloc] at hs1)
    | (go_at_call 50; refine (hc _).mono ?_; rintro e w2 ⟨v2, rfl, ho2, hb2⟩
       have B2 := Lib.hid (And.intro ho2 hb2)
       clear ho2 hb2))
  go_ret2
  obtain ⟨ho2, hb2⟩ := B2.out
  refine ⟨_, rfl, own_base ho2 (by simp; omega), ?_⟩
  refine ((((Below.refl w.heap.size w).alloc (Nat.le_refl _) _).trans (hb1.mono (by simp))).alloc (by omega) _ |>.alloc (by simp; omega) _).trans (hb2.mono (by simp; omega))

end Go.Proofs.Ytljhbjkdifmonaa

/- slices.Index and slices.Contains of a list of forms; cycle.Proper. -/
namespace Go.Proofs.Ytljhbjkdifmonaa
open Go.RowKit Pq

/-- Where a form stands first; -1: nowhere. -/
def fidx (l : List Bin) (f : Bin) : Int := if f ∈ l then (l.idxOf f : Int) else -1
theorem fidx_nonneg (l : List Bin) (f : Bin) : decide (0 ≤ fidx l f) = decide (f ∈ l) := by
  unfold fidx; split <;> simp [*]

theorem below_drewN' {B : Nat} {a w : World} (h : Below B a w) (n : Nat) : Below B a (w.drewN n) := ⟨h.os, h.tape, h.output, h.size, h.block⟩

set_option maxRecDepth 100000 in
set_option maxHeartbeats 1000000 in
theorem index_any (l : List Bin) (f : Bin) (hlen : l.length ≤ 1000000) (w : World) (b1 : Nat) (u : Value) (h1 : w.ownsRow b1 23 3 u l.length (rowOf l)) :
    Calls Try.prog 88 #[u, .agg #[.int .i64 f.a, .int .i64 f.b, .int .i64 f.c]] w fun e w' => e = .returned (.int .i64 (fidx l f)) ∧ Below w.heap.size w w' := by
  obtain ⟨A, c, rfl⟩ := own_slice h1
  have H := Lib.hid (own_below h1 ((Below.refl w.heap.size w).alloc (Nat.le_refl _) (Obj.cells #[.int .i64 f.a, .int .i64 f.b, .int .i64 f.c] 23)))
  clear h1
  have hblk := Blk.new w 23 #[.int .i64 f.a, .int .i64 f.b, .int .i64 f.c]
  have HBL : Hid (Below w.heap.size w (w.alloc (Obj.cells #[.int .i64 f.a, .int .i64 f.b, .int .i64 f.c] 23))) := ((Below.refl w.heap.size w).alloc (Nat.le_refl _) _)
  generalize hn : l.length = n at *
  have HN := Lib.hid hn
  clear hn
  obtain ⟨v, hv⟩ : ∃ v, v = fidx l f := ⟨_, rfl⟩
  have HV := Lib.hid hv
  rw [← hv]
  clear hv
  go_enter Try.func88, Try.ntmps88
  go_wp2
  generalize hW : w.alloc (Obj.cells #[.int .i64 f.a, .int .i64 f.b, .int .i64 f.c] 23) = W at *
  clear hW
  go_loopw [8] (fun u wr => ∃ (t : Nat), u = .int .i64 t ∧ t ≤ n ∧ Hid (∀ j, j < t → nth l j ≠ f) ∧ ∃ m, wr = W.drewN m) (fun u _ => (n - intOf u).toNat)
  case atStart => exact ⟨0, rfl, by omega, (fun j hj => by omega), 0, rfl⟩
  case round =>
    obtain ⟨t, rfl, htn, hno, m, rfl⟩ := hrel
    by_cases hlt : t < n
    · have hn0 : 0 < n := by omega
      obtain ⟨g, hA, hg⟩ := own_at H.out hn0
      subst hA
      obtain ⟨x0, x1, x2⟩ := own_bin (HN.out.symm ▸ H.out) (k := t) (by rw [HN.out]; exact hlt)
      obtain ⟨y0, y1, y2⟩ := hblk.c3
      by_cases he : f = nth l t
      · have hne := fun W => eql23 W f (nth l t)
        rw [decide_eq_true he] at hne
        have HE := Lib.hid he
        clear he
        go_wp2
        go_quiet (fail)
        go_wp2
        go_ret
        refine ⟨ret_int ?_, below_drewN' (below_drewN' HBL.out _) _⟩
        have hm : f ∈ l := by rw [HE.out]; exact nth_mem (by rw [HN.out]; exact hlt)
        rw [HV.out]; unfold fidx; rw [if_pos hm]
        have h1 : l.idxOf f = t := by
          have hlt2 : l.idxOf f < l.length := List.idxOf_lt_length_of_mem hm
          have e1 : nth l (l.idxOf f) = f := by rw [nth_eq hlt2]; exact List.getElem_idxOf hlt2
          rcases Nat.lt_trichotomy (l.idxOf f) t with h | h | h
          · exact (hno.out _ h e1).elim
          · exact h
          · have h5 := List.not_of_lt_findIdx (p := (· == f)) (xs := l) (i := t) h
            have h6 : t < l.length := by rw [HN.out]; exact hlt
            rw [← nth_eq h6, ← HE.out] at h5
            simp at h5
        rw [h1]
      · have hne := fun W => eql23 W f (nth l t)
        rw [decide_eq_false he] at hne
        have HE := Lib.hid he
        clear he
        go_wp2
        go_quiet (fail)
        go_wp2
        go_roundw
        case rel => exact ⟨t + 1, by simp, by omega, (fun j hj => by rcases (show j < t ∨ j = t by omega) with h | rfl; exact hno.out j h; exact fun h => HE.out h.symm), m + nq, rfl⟩
        case measure => simp [intOf]; omega
    · go_wp2
      go_ret
      refine ⟨ret_int ?_, below_drewN' HBL.out _⟩
      have hm : f ∉ l := fun hm => by
        have hlt2 : l.idxOf f < l.length := List.idxOf_lt_length_of_mem hm
        have e1 : nth l (l.idxOf f) = f := by rw [nth_eq hlt2]; exact List.getElem_idxOf hlt2
        exact hno.out _ (by rw [HN.out] at hlt2; omega) e1
      rw [HV.out]; unfold fidx; rw [if_neg hm]

set_option maxRecDepth 100000 in
theorem contains_any (l : List Bin) (f : Bin) (hlen : l.length ≤ 1000000) (w : World) (b1 : Nat) (u : Value) (h1 : w.ownsRow b1 23 3 u l.length (rowOf l)) :
    Calls Try.prog 59 #[u, .agg #[.int .i64 f.a, .int .i64 f.b, .int .i64 f.c]] w fun e w' => e = .returned (.bool (decide (f ∈ l))) ∧ Below w.heap.size w w' := by
  have hi := index_any l f hlen _ b1 u (own_below h1 ((Below.refl w.heap.size w).alloc (Nat.le_refl _) (Obj.cells #[.int .i64 f.a, .int .i64 f.b, .int .i64 f.c] 23)))
  have hd := fidx_nonneg l f
  obtain ⟨A, c, rfl⟩ := own_slice h1
  clear h1
  generalize l.length = n at *
  generalize fidx l f = v at *
  generalize decide (f ∈ l) = b at *
  go_enter Try.func59, Try.ntmps59
  go_wp2_with (go_at_call 88; refine hi.mono ?_; rintro e w1 ⟨rfl, hb1⟩)
  go_ret
  exact ⟨ret_bool (by simp [hd]), ((Below.refl w.heap.size w).alloc (Nat.le_refl _) _).trans (hb1.mono (by simp))⟩

end Go.Proofs.Ytljhbjkdifmonaa

/- cycle.Proper, where both forms are let in and the cycle closes. -/
namespace Go.Proofs.Ytljhbjkdifmonaa
open Go.RowKit Pq

set_option maxRecDepth 100000 in
set_option maxHeartbeats 4000000 in
theorem proper_calls (f g x y : Bin) (T U : Trn) (l : List Bin) (N : Nat) (dx dy : Int) (w : World)
    (hrf : ∀ W, Calls Try.prog 17 #[.agg #[.int .i64 f.a, .int .i64 f.b, .int .i64 f.c]] W fun e w' => e = .returned (.tuple #[.agg #[.int .i64 x.a, .int .i64 x.b, .int .i64 x.c], .agg #[.int .i64 T.p, .int .i64 T.q, .int .i64 T.r, .int .i64 T.s], .int .i64 0]) ∧ Below W.heap.size W w')
    (hrg : ∀ W, Calls Try.prog 17 #[.agg #[.int .i64 g.a, .int .i64 g.b, .int .i64 g.c]] W fun e w' => e = .returned (.tuple #[.agg #[.int .i64 y.a, .int .i64 y.b, .int .i64 y.c], .agg #[.int .i64 U.p, .int .i64 U.q, .int .i64 U.r, .int .i64 U.s], .int .i64 0]) ∧ Below W.heap.size W w')
    (hdx : ∀ W, Calls Try.prog 57 #[.agg #[.int .i64 x.a, .int .i64 x.b, .int .i64 x.c]] W fun e w' => e = .returned (.int .i64 dx) ∧ Below W.heap.size W w')
    (hdy : ∀ W, Calls Try.prog 57 #[.agg #[.int .i64 y.a, .int .i64 y.b, .int .i64 y.c]] W fun e w' => e = .returned (.int .i64 dy) ∧ Below W.heap.size W w')
    (hc : dx = dy → ∀ W, Calls Try.prog 50 #[.agg #[.int .i64 x.a, .int .i64 x.b, .int .i64 x.c]] W fun e w' => ∃ v, e = .returned (.tuple #[v, .bool false]) ∧ w'.ownsRow W.heap.size 23 3 v N (rowOf l) ∧ Below W.heap.size W w')
    (hN : l.length = N) (hN2 : N ≤ 4096) :
    Calls Try.prog 18 #[.agg #[.int .i64 f.a, .int .i64 f.b, .int .i64 f.c], .agg #[.int .i64 g.a, .int .i64 g.b, .int .i64 g.c]] w fun e w' => e = .returned (.tuple #[.bool (decide (dx = dy ∧ y ∈ l)), .int .i64 0]) ∧ Below w.heap.size w w' := by
  obtain ⟨fa, fb, fc⟩ := f
  obtain ⟨ga, gb, gc⟩ := g
  obtain ⟨p, q, r, s⟩ := T
  obtain ⟨p', q', r', s'⟩ := U
  have HC := Lib.hid hc
  have HN := Lib.hid hN
  clear hc hN
  simp only at hrf hrg ⊢
  obtain ⟨B, hB⟩ : ∃ B, B = decide (dx = dy ∧ y ∈ l) := ⟨_, rfl⟩
  rw [← hB]
  have HBV := Lib.hid hB
  clear hB
  go_enter Try.func18, Try.ntmps18
  go_wp2_with (first
    | (go_at_call 17; (with_reducible refine (hrf _).mono ?_); rintro e w1 ⟨rfl, hb1⟩; obtain ⟨hc1, hf1⟩ := bcell hb1
       have hs1 : w.heap.size + 1 < w1.heap.size := by have := hb1.size; simp only [World.size_alloc] at this; omega
       have hs1' : w.heap.size < w1.heap.size := by omega)
    | (go_at_call 17; (with_reducible refine (hrg _).mono ?_); rintro e w2 ⟨rfl, hb2⟩; obtain ⟨hc2, hf2⟩ := bcell hb2
       have hs2 : w1.heap.size + 1 < w2.heap.size := by have := hb2.size; simp only [World.size_alloc] at this; omega
       have hs2' : w1.heap.size < w2.heap.size := by omega))
  have k6 := ((((Blk.new w1 23 #[.int .i64 x.a, .int .i64 x.b, .int .i64 x.c]).alloc (Obj.cells #[.int .i64 p, .int .i64 q, .int .i64 r, .int .i64 s] 35)).below' hb2).alloc (Obj.cells #[.int .i64 y.a, .int .i64 y.b, .int .i64 y.c] 23)).alloc (Obj.cells #[.int .i64 p', .int .i64 q', .int .i64 r', .int .i64 s'] 35)
  have k9 := (Blk.new w2 23 #[.int .i64 y.a, .int .i64 y.b, .int .i64 y.c]).alloc (Obj.cells #[.int .i64 p', .int .i64 q', .int .i64 r', .int .i64 s'] 35)
  have HB : Hid (Below w.heap.size w ((w2.alloc (Obj.cells #[.int .i64 y.a, .int .i64 y.b, .int .i64 y.c] 23)).alloc (Obj.cells #[.int .i64 p', .int .i64 q', .int .i64 r', .int .i64 s'] 35))) :=
    ((((((((Below.refl w.heap.size w).alloc (Nat.le_refl _) _).alloc (by simp) _).trans (hb1.mono (by simp; omega))).alloc (by omega) _).alloc (by simp; omega) _).trans (hb2.mono (by simp; omega))).alloc (by omega) _).alloc (by simp; omega) _
  clear hb1 hc1 hf1 hb2 hc2 hf2 hrf hrg
  generalize (w2.alloc (Obj.cells #[.int .i64 y.a, .int .i64 y.b, .int .i64 y.c] 23)).alloc (Obj.cells #[.int .i64 p', .int .i64 q', .int .i64 r', .int .i64 s'] 35) = W at *
  obtain ⟨c60, c61, c62⟩ := k6.c3
  obtain ⟨c90, c91, c92⟩ := k9.c3
  have l6 := k6.lt
  have l9 := k9.lt
  have hw0 : w.heap.size < w1.heap.size := by omega
  clear k6 k9
  generalize w1.heap.size = G6 at *
  generalize w2.heap.size = G9 at *
  go_cut [35] (fun u wc => u = .bool (dx != dy) ∧ wc.cell? ⟨G6, 0, none⟩ = some (.int .i64 x.a) ∧ wc.cell? ⟨G6, 1, none⟩ = some (.int .i64 x.b) ∧ wc.cell? ⟨G6, 2, none⟩ = some (.int .i64 x.c) ∧ wc.cell? ⟨G9, 0, none⟩ = some (.int .i64 y.a) ∧ wc.cell? ⟨G9, 1, none⟩ = some (.int .i64 y.b) ∧ wc.cell? ⟨G9, 2, none⟩ = some (.int .i64 y.c) ∧ Since W wc)
  case first =>
    go_region_held3 (fun wc => wc.cell? ⟨G6, 0, none⟩ = some (.int .i64 x.a) ∧ wc.cell? ⟨G6, 1, none⟩ = some (.int .i64 x.b) ∧ wc.cell? ⟨G6, 2, none⟩ = some (.int .i64 x.c) ∧ wc.cell? ⟨G9, 0, none⟩ = some (.int .i64 y.a) ∧ wc.cell? ⟨G9, 1, none⟩ = some (.int .i64 y.b) ∧ wc.cell? ⟨G9, 2, none⟩ = some (.int .i64 y.c) ∧ Since W wc)
      (first
        | exact ⟨c60, c61, c62, c90, c91, c92, Since.start W⟩
        | (go_split_ands
           exact (fun z => ⟨z.cell c60 l6, z.cell c61 l6, z.cell c62 l6, z.cell c90 l9, z.cell c91 l9, z.cell c92 l9, z⟩) (Since.step hb5 (by assumption))))
      (first
        | (go_at_call 57; (with_reducible refine (hdx _).mono ?_); rintro e w5 ⟨rfl, hb5⟩)
        | (go_at_call 57; (with_reducible refine (hdy _).mono ?_); rintro e w5 ⟨rfl, hb5⟩))
    go_split_ands
    go_wp2_with fail
    go_meet
    exact ⟨rfl, by assumption, by assumption, by assumption, by assumption, by assumption, by assumption, by assumption⟩
  case rest =>
    obtain ⟨rfl, e60, e61, e62, e90, e91, e92, hS⟩ := hcut
    clear c60 c61 c62 c90 c91 c92 hdx hdy
    have l9' : G9 < wc.heap.size := by have := hS.out.size; omega
    by_cases hdd : dx = dy
    · have hne : (dx != dy) = false := by simp [hdd]
      have hc := HC.out hdd
      have HD := Lib.hid hdd
      clear hdd
      have hcon := fun (W : World) (u : Value) (b1 : Nat) (ho : W.ownsRow b1 23 3 u N (rowOf l)) => contains_any l y (by rw [HN.out]; omega) W b1 u (by rw [HN.out]; exact ho)
      have hde : B = decide (y ∈ l) := by rw [HBV.out]; simp [HD.out]
      have HDE := Lib.hid hde
      clear hde
      generalize decide (y ∈ l) = b at *
      have HCON := Lib.hid hcon
      clear hcon
      go_wp2_with (first
        | (go_at_call 50; (with_reducible refine (hc _).mono ?_); rintro e w6 ⟨v6, rfl, ho6, hb6⟩
           obtain ⟨hc6, hf6⟩ := bcell hb6
           have hcon := HCON.out _ _ _ ho6
           have B6 := Lib.hid hb6
           clear ho6)
        | (go_at_call 59; (with_reducible refine hcon.mono ?_); rintro e w7 ⟨rfl, hb7⟩))
      all_goals
        go_ret2
        refine ⟨?_, (HB.out.trans (hS.out.mono HB.out.size)).trans ((B6.out.mono ?_).trans (hb7.mono ?_))⟩
        · rw [HDE.out, ‹b = _›]; rfl
        · have := HB.out.size; have := hS.out.size; omega
        · have := HB.out.size; have := hS.out.size; have := B6.out.size; omega
    · have hne : (dx != dy) = true := by simpa using hdd
      have HDD := Lib.hid hdd
      clear hdd
      go_wp2
      go_ret2
      exact ⟨by rw [HBV.out, decide_eq_false (fun h => HDD.out h.1)]; rfl, HB.out.trans (hS.out.mono HB.out.size)⟩

end Go.Proofs.Ytljhbjkdifmonaa

/- works of layer 9: the cycle of x^2 - 3 y^2. -/
namespace Go.Proofs.Ytljhbjkdifmonaa
open Go.RowKit Pq

theorem own_binM {w : World} {base g c n : Nat} {l : List Bin} (hn : l.length = n) (h : w.ownsRow base 23 3 (.slice (some ⟨g, 0, none⟩) n c) n (rowOf l)) {k : Nat} (hk : k < n) :
    w.cell? ⟨g, k * 3, none⟩ = some (.int .i64 (nth l k).a) ∧ w.cell? ⟨g, k * 3 + 1, none⟩ = some (.int .i64 (nth l k).b) ∧ w.cell? ⟨g, k * 3 + 2, none⟩ = some (.int .i64 (nth l k).c) := by
  subst hn; exact own_bin h hk
theorem cross12 : Cross 12 3 := (crossB_true (d := 12) (by decide +kernel)).1
theorem F12 (x : Bin) (hx : Within 1073741824 x) (hd : x.disc = 12) : (∀ k, It 12 3 (k + 1) x = nxt 12 3 (It 12 3 k x)) ∧ ∀ k, Within 1073741824 (It 12 3 k x) ∧ (It 12 3 k x).disc = 12 :=
  ⟨fun k => It_succ' 12 3 k x, fun k => ⟨It_within cross12 (by decide) k hd hx, It_disc cross12 k hd⟩⟩
theorem red_w1 (W : World) : Calls Try.prog 17 #[.agg #[.int .i64 1, .int .i64 0, .int .i64 (-3)]] W fun e w' => e = .returned (.tuple #[.agg #[.int .i64 1, .int .i64 2, .int .i64 (-2)], .agg #[.int .i64 (TIt 12 3 ⟨1, 0, -3⟩ 2).p, .int .i64 (TIt 12 3 ⟨1, 0, -3⟩ 2).q, .int .i64 (TIt 12 3 ⟨1, 0, -3⟩ 2).r, .int .i64 (TIt 12 3 ⟨1, 0, -3⟩ 2).s], .int .i64 0]) ∧ Below W.heap.size W w' :=
  reduce_ok ⟨1, 0, -3⟩ 2 W 3 (by decide +kernel) (by decide +kernel) (by decide +kernel) (by decide +kernel)
theorem red_w2 (W : World) : Calls Try.prog 17 #[.agg #[.int .i64 (-1), .int .i64 0, .int .i64 3]] W fun e w' => e = .returned (.tuple #[.agg #[.int .i64 (-1), .int .i64 2, .int .i64 2], .agg #[.int .i64 (TIt 12 3 ⟨-1, 0, 3⟩ 2).p, .int .i64 (TIt 12 3 ⟨-1, 0, 3⟩ 2).q, .int .i64 (TIt 12 3 ⟨-1, 0, 3⟩ 2).r, .int .i64 (TIt 12 3 ⟨-1, 0, 3⟩ 2).s], .int .i64 0]) ∧ Below W.heap.size W w' :=
  reduce_ok ⟨-1, 0, 3⟩ 2 W 3 (by decide +kernel) (by decide +kernel) (by decide +kernel) (by decide +kernel)
theorem round_w (W : World) : Calls Try.prog 50 #[.agg #[.int .i64 1, .int .i64 2, .int .i64 (-2)]] W fun e w' => ∃ v, e = .returned (.tuple #[v, .bool false]) ∧ w'.ownsRow W.heap.size 23 3 v 2 (rowOf [⟨1, 2, -2⟩, ⟨-2, 2, 1⟩]) ∧ Below W.heap.size W w' :=
  round_closes (fun k => It 12 3 k ⟨1, 2, -2⟩) 12 3 2 W (F12 _ (inB_true (by decide +kernel)) (by decide +kernel)).1 (F12 _ (inB_true (by decide +kernel)) (by decide +kernel)).2 cross12 (by decide) (by decide) (by decide) (by decide +kernel) (fun k h1 h2 => by
    obtain rfl : k = 1 := by omega
    decide +kernel)
theorem cycle_w (w : World) : Calls Try.prog 55 #[.agg #[.int .i64 1, .int .i64 0, .int .i64 (-3)]] w fun e w' => ∃ v, e = .returned (.tuple #[v, .int .i64 0]) ∧ w'.ownsRow w.heap.size 23 3 v 2 (rowOf [⟨1, 2, -2⟩, ⟨-2, 2, 1⟩]) ∧ Below w.heap.size w w' :=
  cycle_calls ⟨1, 0, -3⟩ ⟨1, 2, -2⟩ (TIt 12 3 ⟨1, 0, -3⟩ 2) [⟨1, 2, -2⟩, ⟨-2, 2, 1⟩] 2 w red_w1 round_w
theorem proper_w (w : World) : Calls Try.prog 18 #[.agg #[.int .i64 1, .int .i64 0, .int .i64 (-3)], .agg #[.int .i64 (-1), .int .i64 0, .int .i64 3]] w fun e w' => e = .returned (.tuple #[.bool false, .int .i64 0]) ∧ Below w.heap.size w w' := by
  have h := proper_calls ⟨1, 0, -3⟩ ⟨-1, 0, 3⟩ ⟨1, 2, -2⟩ ⟨-1, 2, 2⟩ (TIt 12 3 ⟨1, 0, -3⟩ 2) (TIt 12 3 ⟨-1, 0, 3⟩ 2) [⟨1, 2, -2⟩, ⟨-2, 2, 1⟩] 2 12 12 w red_w1 red_w2 (fun W => discf_any ⟨1, 2, -2⟩ W (inB_true (by decide +kernel))) (fun W => discf_any ⟨-1, 2, 2⟩ W (inB_true (by decide +kernel))) (fun _ => round_w) rfl (by decide)
  rwa [decide_eq_false (show ¬ ((12 : Int) = 12 ∧ (⟨-1, 2, 2⟩ : Bin) ∈ [(⟨1, 2, -2⟩ : Bin), ⟨-2, 2, 1⟩]) by decide +kernel)] at h

theorem eqw1 (w : World) : (binOp .eql 23 (.agg #[.int .i64 (-2), .int .i64 0, .int .i64 1]) (.agg #[.int .i64 (-2), .int .i64 0, .int .i64 1])).run Try.prog w = .ok (.bool true) w := by kernel_rfl
theorem eqw2 (w : World) : (binOp .eql 35 (.agg #[.int .i64 0, .int .i64 (-1), .int .i64 1, .int .i64 0]) (.agg #[.int .i64 0, .int .i64 (-1), .int .i64 1, .int .i64 0])).run Try.prog w = .ok (.bool true) w := by kernel_rfl
theorem eqw3 (w : World) : (binOp .eql 23 (.agg #[.int .i64 1, .int .i64 2, .int .i64 (-2)]) (.agg #[.int .i64 1, .int .i64 2, .int .i64 (-2)])).run Try.prog w = .ok (.bool true) w := by kernel_rfl
theorem eqw4 (w : World) : (binOp .eql 23 (.agg #[.int .i64 (-2), .int .i64 2, .int .i64 1]) (.agg #[.int .i64 (-2), .int .i64 2, .int .i64 1])).run Try.prog w = .ok (.bool true) w := by kernel_rfl

set_option maxRecDepth 100000 in
set_option maxHeartbeats 4000000 in
theorem works9 (w : World) : Calls Try.prog 15 #[] w fun e w' => e = .returned (.bool true) ∧ Below w.heap.size w w' := by
  have q1 := fun W => eqw1 W
  have q2 := fun W => eqw2 W
  have q3 := fun W => eqw3 W
  have q4 := fun W => eqw4 W
  go_enter Try.func15, Try.ntmps15
  go_wp2_with (first
    | (go_at_call 55; (with_reducible refine (cycle_w _).mono ?_); rintro e w1 ⟨v1, rfl, ho1, hb1⟩
       obtain ⟨A1, c1, rfl⟩ := own_slice ho1
       obtain ⟨g1, hA1, hg1, hg1'⟩ := own_at ho1 (by decide)
       subst hA1
       obtain ⟨x0, x1, x2⟩ := own_binM (l := [⟨1, 2, -2⟩, ⟨-2, 2, 1⟩]) rfl ho1 (k := 0) (by decide)
       obtain ⟨y0, y1, y2⟩ := own_binM (l := [⟨1, 2, -2⟩, ⟨-2, 2, 1⟩]) rfl ho1 (k := 1) (by decide)
       have X := Lib.hid (And.intro x0 (And.intro x1 (And.intro x2 (And.intro y0 (And.intro y1 y2)))))
       have B1 := Lib.hid hb1
       clear ho1 hb1 x0 x1 x2 y0 y1 y2)
    | (go_at_call 18; (with_reducible refine (proper_w _).mono ?_); rintro e w2 ⟨rfl, hb2⟩)
    | (go_at_call 56; (with_reducible refine (next_w _).mono ?_); rintro e w3 ⟨rfl, hb3⟩
       obtain ⟨x0, x1, x2, y0, y1, y2⟩ := X.out
       have hb23 := hb2.trans (hb3.mono hb2.size)
       have z0 := (hb23.cell (p := ⟨g1, 0, none⟩) hg1').trans x0
       have z1 := (hb23.cell (p := ⟨g1, 1, none⟩) hg1').trans x1
       have z2 := (hb23.cell (p := ⟨g1, 2, none⟩) hg1').trans x2
       have z3 := (hb23.cell (p := ⟨g1, 3, none⟩) hg1').trans y0
       have z4 := (hb23.cell (p := ⟨g1, 4, none⟩) hg1').trans y1
       have z5 := (hb23.cell (p := ⟨g1, 5, none⟩) hg1').trans y2
       have hs3 : g1 < w3.heap.size := by have := hb23.size; omega
       have B3 := Lib.hid hb23
       clear hb2 hb3 hb23 x0 x1 x2 y0 y1 y2 X))
  go_ret
  exact ⟨rfl, ((B1.out.trans (B3.out.mono B1.out.size)).alloc (Nat.le_trans B1.out.size B3.out.size) _).alloc (by have := B1.out.size; have := B3.out.size; simp; omega) _⟩

end Go.Proofs.Ytljhbjkdifmonaa

/- The law CycleLists, walked. -/
namespace Go.Proofs.Ytljhbjkdifmonaa
open Go.RowKit Pq

/-- A store into an own row leaves it an own row. -/
theorem own_store {w : World} {base : Nat} {e : TypeId} {size n g c : Nat} {xs : List Value} (h : w.ownsRow base e size (.slice (some ⟨g, 0, none⟩) n c) n xs) (j : Nat) (u : Value) :
    ∃ ys, (w.setCell ⟨g, j, none⟩ u).ownsRow base e size (.slice (some ⟨g, 0, none⟩) n c) n ys := by
  obtain ⟨hl, hr⟩ := h
  rcases hr with ⟨h1, _⟩ | ⟨g', cap, cur, h1, hb, hg, hc1, hc2, hc3, hc4⟩
  · simp at h1
  · simp only [Value.slice.injEq, Option.some.injEq, Addr.mk.injEq] at h1
    obtain ⟨⟨rfl, _, _⟩, _, rfl⟩ := h1
    have hk : Blk (w.setCell ⟨g, j, none⟩ u) g e (cur.setIfInBounds j u) := Blk.set_ (cs := cur) hg j u
    refine ⟨(cur.setIfInBounds j u).toList.take (n * size), ?_, .inr ⟨g, c, cur.setIfInBounds j u, rfl, hb, hk, hc1, hc2, by simpa using hc3, rfl⟩⟩
    rw [List.length_take]
    have : n * size ≤ c * size := Nat.mul_le_mul_right _ hc1
    simp; omega
theorem own_store3 {w : World} {base : Nat} {e : TypeId} {size n g c : Nat} {xs : List Value} (h : w.ownsRow base e size (.slice (some ⟨g, 0, none⟩) n c) n xs) (i j k : Nat) (u v x : Value) :
    ∃ ys, (((w.setCell ⟨g, i, none⟩ u).setCell ⟨g, j, none⟩ v).setCell ⟨g, k, none⟩ x).ownsRow base e size (.slice (some ⟨g, 0, none⟩) n c) n ys := by
  obtain ⟨_, h1⟩ := own_store h i u
  obtain ⟨_, h2⟩ := own_store h1 j v
  exact own_store h2 k x

/-- What is still to be read of the first list's rows, from i on. -/
def RowsFrom (w : World) (b1 : Nat) (vs : List Value) (LL : List (List Bin)) (i : Nat) : Prop :=
  ∀ (j : Nat) (u : Value) (l : List Bin), i ≤ j → vs[j]? = some u → LL[j]? = some l → w.ownsRow b1 23 3 u l.length (rowOf l)
theorem RowsFrom.grown {w w' : World} {b1 : Nat} {vs : List Value} {LL : List (List Bin)} {i i' : Nat} (h : RowsFrom w b1 vs LL i) {row : Option Nat} (hg : w.grownBy w' row) (hi : i ≤ i')
    (hne : ∀ (j : Nat) (u : Value), i' ≤ j → vs[j]? = some u → u.ownBlock = none ∨ u.ownBlock ≠ row) : RowsFrom w' b1 vs LL i' := fun j u l hj hu hl =>
  (h j u l (by omega) hu hl).kept hg (hne j u hj hu)

/-- All that the law's first loop knows at its i-th round. -/
structure LawAt (b1 b2 b3 : Nat) (V : Value) (vs : List Value) (vk vm : Value) (LL : List (List Bin)) (w0 : World) (i : Nat) (w : World) : Prop where
  out : w.ownsRow b1 32 1 V LL.length vs
  rows : RowsFrom w b1 vs LL i
  k : OwnLL w b2 vk LL
  m : OwnLL w b3 vm LL
  b : Below w0.heap.size w0 w
  h1 : w0.heap.size ≤ b1
  h2 : b1 ≤ b2
  h3 : b2 ≤ b3
  hb3 : b3 ≤ w.heap.size
  apart : ∀ (i j : Nat) (u u' : Value) (b : Nat), i < j → vs[i]? = some u → vs[j]? = some u' → u.ownBlock = some b → u'.ownBlock ≠ some b
  lt : ∀ (j : Nat) (u : Value) (b : Nat), vs[j]? = some u → u.ownBlock = some b → b < b2
  ge : ∀ (j : Nat) (u : Value) (b : Nat), vs[j]? = some u → u.ownBlock = some b → b1 ≤ b
  outer : ∀ b, V.ownBlock = some b → b < b2
  ne : ∀ (j : Nat) (u : Value), vs[j]? = some u → V.ownBlock = none ∨ V.ownBlock ≠ u.ownBlock

theorem LawAt.grown {b1 b2 b3 : Nat} {V : Value} {vs : List Value} {vk vm : Value} {LL : List (List Bin)} {w0 w w' : World} {i i' : Nat} (h : LawAt b1 b2 b3 V vs vk vm LL w0 i w) {row : Option Nat} (hg : w.grownBy w' row) (hi : i ≤ i')
    (hr : ∀ b, row = some b → ∃ (j : Nat) (u : Value), j < i' ∧ vs[j]? = some u ∧ u.ownBlock = some b) : LawAt b1 b2 b3 V vs vk vm LL w0 i' w' := by
  have hlt : ∀ b, row = some b → b < b2 := fun b hb => by obtain ⟨j, u, _, hu, ho⟩ := hr b hb; exact h.lt j u b hu ho
  refine { h with out := h.out.kept hg ?_, rows := h.rows.grown hg hi ?_, k := h.k.grown hg hlt, m := h.m.grown hg (fun b hb => Nat.lt_of_lt_of_le (hlt b hb) h.h3), b := h.b.grown hg ?_ ?_, hb3 := Nat.le_trans h.hb3 hg.size }
  · cases hrow : row with
    | none => cases hV : V.ownBlock with
      | none => exact .inl rfl
      | some _ => exact .inr (by simp)
    | some b =>
      obtain ⟨j, u, _, hu, ho⟩ := hr b hrow
      have := h.ne j u hu
      rwa [ho] at this
  · intro j u hj hu
    cases hrow : row with
    | none => cases hV : u.ownBlock with
      | none => exact .inl rfl
      | some _ => exact .inr (by simp)
    | some b =>
      obtain ⟨j', u', hj', hu', ho⟩ := hr b hrow
      exact .inr (h.apart j' j u' u b (by omega) hu' hu ho)
  · exact Nat.le_trans h.h1 (Nat.le_trans h.h2 (Nat.le_trans h.h3 h.hb3))
  · intro b hb
    obtain ⟨j, u, _, hu, ho⟩ := hr b hb
    exact Nat.le_trans h.h1 (h.ge j u b hu ho)

end Go.Proofs.Ytljhbjkdifmonaa

/- The law CycleLists where the number is let in by none. -/
namespace Go.Proofs.Ytljhbjkdifmonaa
open Go.RowKit Pq

theorem ne0 (w : World) : (binOp .neq 23 (.agg #[.int .i64 0, .int .i64 0, .int .i64 0]) (.agg #[.int .i64 0, .int .i64 0, .int .i64 0])).run Try.prog w = .ok (.bool false) w := by kernel_rfl

set_option maxRecDepth 100000 in
set_option maxHeartbeats 4000000 in
theorem law3_bad (d : Int) (w : World) (h : 65536 < d ∨ crossB d = false) : Calls Try.prog 3 #[.int .i64 d] w fun e w' => e = .returned (.bool true) ∧ Below w.heap.size w w' := by
  have c11 := Lib.hid (fun W => princ_bad d W h)
  have c12 := Lib.hid (fun W => all_bad d W h)
  have c13 := Lib.hid (fun W => rprinc_bad d W h)
  have c14 := Lib.hid (fun W => rall_bad d W h)
  clear h
  have q0 := fun W => ne0 W
  go_enter Try.func3, Try.ntmps3
  go_wp2_with (first
    | (go_at_call 11; (with_reducible refine (c11.out _).mono ?_); rintro e w1 ⟨rfl, hb1⟩
       have BT := Lib.hid hb1
       have s1 := hb1.size
       clear hb1)
    | (go_at_call 12; (with_reducible refine (c12.out _).mono ?_); rintro e w2 ⟨rfl, hb2⟩
       obtain ⟨hc2, hf2⟩ := bcell hb2
       have s2 := hb2.size
       (try simp only [World.size_alloc] at s2)
       have t2 : w1.heap.size < w2.heap.size := by omega
       replace BT : Hid (Below w.heap.size w w2) := (by first | exact Lib.hid (bstep BT.out hb2 (Nat.le_refl _)) | exact Lib.hid (bstepA BT.out hb2 (Nat.le_refl _)))
       clear hb2)
    | (go_at_call 13; (with_reducible refine (c13.out _).mono ?_); rintro e w4 ⟨rfl, hb4⟩
       obtain ⟨hc4, hf4⟩ := bcell hb4
       have s4 := hb4.size
       have t4 : w1.heap.size < w4.heap.size := by omega
       replace BT : Hid (Below w.heap.size w w4) := (by first | exact Lib.hid (bstep BT.out hb4 (Nat.le_refl _)) | exact Lib.hid (bstepA BT.out hb4 (Nat.le_refl _)))
       clear hb4)
    | (go_at_call 14; (with_reducible refine (c14.out _).mono ?_); rintro e w5 ⟨rfl, hb5⟩
       obtain ⟨hc5, hf5⟩ := bcell hb5
       have s5 := hb5.size
       (try simp only [World.size_alloc] at s5)
       have t5 : w1.heap.size < w5.heap.size := by omega
       have u5 : w4.heap.size < w5.heap.size := by omega
       replace BT : Hid (Below w.heap.size w w5) := (by first | exact Lib.hid (bstep BT.out hb5 (Nat.le_refl _)) | exact Lib.hid (bstepA BT.out hb5 (Nat.le_refl _)))
       clear hb5)
    | (go_at_call 15; (with_reducible refine (works9 _).mono ?_); rintro e w6 ⟨rfl, hb6⟩
       replace BT : Hid (Below w.heap.size w w6) := (by first | exact Lib.hid (bstep BT.out hb6 (Nat.le_refl _)) | exact Lib.hid (bstepA BT.out hb6 (Nat.le_refl _)))
       have s6 := hb6.size
       clear hb6))
  clear hc2 hf2 hc4 hf4 hc5 hf5 q0
  go_loop [80] (fun u => u = .int .i64 0) (fun _ => 0)
  case atStart => rfl
  case round =>
    obtain rfl := hrel
    go_wp2
    go_loop [152] (fun u => u = .int .i64 0) (fun _ => 0)
    case atStart => rfl
    case round =>
      obtain rfl := hrel
      go_wp2
      go_ret
      exact ⟨rfl, BT.out⟩
end Go.Proofs.Ytljhbjkdifmonaa

/- The law CycleLists where the number is let in: what the loops know. -/
namespace Go.Proofs.Ytljhbjkdifmonaa
open Go.RowKit Pq

theorem per_le (d s : Int) (f : Bin) : per d s f ≤ 4096 := by
  unfold per
  split
  · rename_i h; exact (Classical.choose_spec h).2.1
  · omega
theorem outTo_rows (d s : Int) (l : List Bin) : ∀ i, ∀ r ∈ outTo d s l i, r.length ≤ 4096 := by
  intro i
  induction i with
  | zero => intro r hr; simp [outTo] at hr
  | succ i ih =>
    intro r hr
    rw [outTo] at hr
    split at hr
    · exact ih r hr
    · rcases List.mem_append.1 hr with h | h
      · exact ih r h
      · simp at h; subst h; simp [cy, cyc]; exact per_le _ _ _
theorem listR_len {d s : Int} (h : Cross d s) (hs : s ≤ 255) : (listR d s (2 * s + 1).toNat).length ≤ 4000 :=
  red_few h hs _ ((sorted_listR d s _).imp fun {a b} hab he => by subst he; exact Lt.irrefl _ hab) fun f hf => by
    have := (mem_listR (by have := h.spos; omega) h).1 hf
    exact ⟨this.1, this.2.1⟩

theorem LawAt.start {w0 w2 w6 : World} {b1 b3 : Nat} {V vk vm : Value} {LL : List (List Bin)} (hl : OwnLL w2 b1 V LL) (hb26 : Below w2.heap.size w2 w6) (hk : OwnLL w6 w2.heap.size vk LL) (hm : OwnLL w6 b3 vm LL)
    (hB : Below w0.heap.size w0 w6) (h1 : w0.heap.size ≤ b1) (h2 : b1 ≤ w2.heap.size) (h3 : w2.heap.size ≤ b3) (h4 : b3 ≤ w6.heap.size) : ∃ vs, LawAt b1 w2.heap.size b3 V vs vk vm LL w0 0 w6 := by
  obtain ⟨vs, l1, l2, l3⟩ := hl
  have hlen : vs.length = LL.length := by have := l1.1; omega
  have row : ∀ (j : Nat) (u : Value), vs[j]? = some u → ∃ l, LL[j]? = some l := fun j u hu => by
    have := (List.getElem?_eq_some_iff.1 hu).1
    exact ⟨_, List.getElem?_eq_getElem (by omega)⟩
  refine ⟨vs, own_below l1 hb26, fun j u l _ hu hl => own_below (l2 j u l hu hl) hb26, hk, hm, hB, h1, h2, h3, h4, l3, fun j u b hu hb => ?_, fun j u b hu hb => ?_, fun b hb => (l1.lt b hb).2, fun j u hu => ?_⟩
  · obtain ⟨l, hl⟩ := row j u hu
    exact ((l2 j u l hu hl).lt b hb).2
  · obtain ⟨l, hl⟩ := row j u hu
    exact ((l2 j u l hu hl).lt b hb).1
  · obtain ⟨l, hl⟩ := row j u hu
    exact own_ne_type l1 (l2 j u l hu hl) (by decide)

/-- A row's own value lies in its cell. -/
theorem LawAt.cell {b1 b2 b3 : Nat} {g c n : Nat} {vs : List Value} {vk vm : Value} {LL : List (List Bin)} {w0 w : World} {i k : Nat} (hn : LL.length = n) (h : LawAt b1 b2 b3 (.slice (some ⟨g, 0, none⟩) n c) vs vk vm LL w0 i w) {u : Value} (hu : vs[k]? = some u) : w.cell? ⟨g, k, none⟩ = some u := by
  subst hn
  have ho := h.out
  have hl := own_len ho
  have hk := (List.getElem?_eq_some_iff.1 hu).1
  rw [ho.cellAt k (by omega)]; exact hu

/-- The rows of an owned list of lists: where it lies, and each row. -/
theorem OwnLL.at {w : World} {base : Nat} {v : Value} {LL : List (List Bin)} (h : OwnLL w base v LL) {i : Nat} (hi : i < LL.length) : ∃ g c u, v = .slice (some ⟨g, 0, none⟩) LL.length c ∧ g < w.heap.size ∧ w.cell? ⟨g, i, none⟩ = some u ∧ w.ownsRow base 23 3 u LL[i].length (rowOf LL[i]) := by
  obtain ⟨vs, l1, l2, _⟩ := h
  have hlen : vs.length = LL.length := by have := l1.1; omega
  obtain ⟨A, c, rfl⟩ := own_slice l1
  obtain ⟨g, rfl, _, hg⟩ := own_at l1 (by omega)
  have hu : vs[i]? = some vs[i] := List.getElem?_eq_getElem (by omega)
  refine ⟨g, c, vs[i], rfl, hg, ?_, l2 i _ _ hu (List.getElem?_eq_getElem hi)⟩
  rw [l1.cellAt i (by omega)]; exact hu
theorem OwnLL.len {w : World} {base : Nat} {v : Value} {LL : List (List Bin)} (h : OwnLL w base v LL) : ∃ A c, v = .slice A LL.length c := by
  obtain ⟨vs, l1, _⟩ := h; exact own_slice l1

theorem OwnLL.at' {w : World} {base : Nat} {A : Option Addr} {n c : Nat} {LL : List (List Bin)} (hn : LL.length = n) (h : OwnLL w base (.slice A n c) LL) {i : Nat} {l : List Bin} (hl : LL[i]? = some l) : ∃ g u, A = some ⟨g, 0, none⟩ ∧ g < w.heap.size ∧ w.cell? ⟨g, i, none⟩ = some u ∧ w.ownsRow base 23 3 u l.length (rowOf l) := by
  subst hn
  have hi := (List.getElem?_eq_some_iff.1 hl).1
  obtain ⟨vs, l1, l2, _⟩ := h
  have hlen : vs.length = LL.length := by have := l1.1; omega
  obtain ⟨g, rfl, _, hg⟩ := own_at l1 (by omega)
  have hu : vs[i]? = some vs[i] := List.getElem?_eq_getElem (by omega)
  refine ⟨g, vs[i], rfl, hg, ?_, l2 i _ _ hu hl⟩
  rw [l1.cellAt i (by omega)]; exact hu
/-- The cells of an own row are there and may be written. -/
theorem own_cells {w : World} {base g n c : Nat} {xs : List Value} (h : w.ownsRow base 23 3 (.slice (some ⟨g, 0, none⟩) n c) n xs) {j : Nat} (hj : j < n) : (∃ x y z, w.cell? ⟨g, j * 3, none⟩ = some x ∧ w.cell? ⟨g, j * 3 + 1, none⟩ = some y ∧ w.cell? ⟨g, j * 3 + 2, none⟩ = some z) ∧ ∀ i, w.frozen? ⟨g, i, none⟩ = false := by
  have hl := own_len h
  refine ⟨⟨xs[j * 3]'(by omega), xs[j * 3 + 1]'(by omega), xs[j * 3 + 2]'(by omega), ?_, ?_, ?_⟩, ?_⟩
  · rw [h.cellAt (j * 3) (by omega)]; exact List.getElem?_eq_getElem _
  · rw [h.cellAt (j * 3 + 1) (by omega)]; exact List.getElem?_eq_getElem _
  · rw [h.cellAt (j * 3 + 2) (by omega)]; exact List.getElem?_eq_getElem _
  · obtain ⟨_, hr⟩ := h
    rcases hr with ⟨h1, _⟩ | ⟨g', cap, cur, h1, hb, hg, _⟩
    · simp at h1
    · simp only [Value.slice.injEq, Option.some.injEq, Addr.mk.injEq] at h1
      obtain ⟨⟨rfl, _, _⟩, _, rfl⟩ := h1
      exact fun i => Blk.frozen (cs := cur) hg i

theorem same_at {w : World} {b b' : Nat} {u v : Value} {l : List Bin} (hu : w.ownsRow b 23 3 u l.length (rowOf l)) (hv : w.ownsRow b' 23 3 v l.length (rowOf l)) (hl : l.length ≤ 4096) (n : Nat) :
    Calls Try.prog 16 #[u, v] (w.drewN n) fun e w'' => e = .returned (.bool true) ∧ ∃ m, w'' = w.drewN m :=
  Calls.quiet_of (same_any l (by omega) (w.drewN n) b b' u v (own_below hu (below_drewN (Below.refl _ _) n)) (own_below hv (below_drewN (Below.refl _ _) n)))

end Go.Proofs.Ytljhbjkdifmonaa

/- The law CycleLists where the number is let in. -/
namespace Go.Proofs.Ytljhbjkdifmonaa
open Go.RowKit Pq

set_option maxRecDepth 100000 in
set_option maxHeartbeats 8000000 in
theorem law3_ok (d s : Int) (w : World) (hcr : Cross d s) (hd : d ≤ 65536) (hx : crossB d = true) (hd4 : d % 4 ≤ 1) (hs : s ≤ 255) : Calls Try.prog 3 #[.int .i64 d] w fun e w' => e = .returned (.bool true) ∧ Below w.heap.size w w' := by
  have c11 := Lib.hid (fun W => princ_ok d W hd hx)
  have c12 := Lib.hid (fun W => all_ok d s W hcr hd hx hd4 hs)
  have c13 := Lib.hid (fun W => rprinc_ok d W hd hx)
  have c14 := Lib.hid (fun W => rall_ok d s _ W hcr hd hx rfl hs (Nat.le_trans (listR_len hcr hs) (by decide)))
  have hLn : (outTo d s (listR d s (2 * s + 1).toNat) (listR d s (2 * s + 1).toNat).length).length ≤ 4000 := Nat.le_trans (outTo_len _ _ _ _) (listR_len hcr hs)
  have HR := Lib.hid (outTo_rows d s (listR d s (2 * s + 1).toNat) (listR d s (2 * s + 1).toNat).length)
  generalize outTo d s (listR d s (2 * s + 1).toNat) (listR d s (2 * s + 1).toNat).length = LL at *
  clear hcr hd hx hd4 hs
  generalize princ d = p at *
  have q0 := fun W => neq23 W p p
  rw [decide_eq_true rfl] at q0
  simp only [Bool.not_true] at q0
  obtain ⟨pa, pb, pc⟩ := p
  simp only at q0 c11 c13
  obtain ⟨i0, hi, hz0, hz1, hz2⟩ := info_parts info23
  go_enter Try.func3, Try.ntmps3
  go_wp2_with fail
  go_at_call 11; (with_reducible refine (c11.out _).mono ?_); rintro e w1 ⟨rfl, hb1⟩
  have s1 := hb1.size
  have BT := Lib.hid hb1
  clear hb1
  go_wp2_with fail
  go_at_call 12; (with_reducible refine (c12.out _).mono ?_); rintro e w2 ⟨v1, rfl, hO1, hb2⟩
  obtain ⟨hc2, hf2⟩ := bcell hb2
  have s2 := hb2.size
  simp only [World.size_alloc] at s2 hO1
  have t2 : w1.heap.size < w2.heap.size := by omega
  replace BT : Hid (Below w.heap.size w w2) := Lib.hid (bstepA BT.out hb2 (Nat.le_refl _))
  have O1 := Lib.hid hO1
  clear hb2 hO1
  go_wp2_with fail
  go_at_call 12; (with_reducible refine (c12.out _).mono ?_); rintro e w3 ⟨v2, rfl, hO2, hb3⟩
  obtain ⟨hc3, hf3⟩ := bcell hb3
  have s3 := hb3.size
  have t3 : w1.heap.size < w3.heap.size := by omega
  replace BT : Hid (Below w.heap.size w w3) := Lib.hid (bstep BT.out hb3 (Nat.le_refl _))
  have O2 := Lib.hid hO2
  have B2 : Hid (Below w2.heap.size w2 w3) := Lib.hid hb3
  clear hb3 hO2
  go_wp2_with fail
  go_at_call 13; (with_reducible refine (c13.out _).mono ?_); rintro e w4 ⟨rfl, hb4⟩
  obtain ⟨hc4, hf4⟩ := bcell hb4
  have s4 := hb4.size
  have t4 : w1.heap.size < w4.heap.size := by omega
  replace BT : Hid (Below w.heap.size w w4) := Lib.hid (bstep BT.out hb4 (Nat.le_refl _))
  replace B2 : Hid (Below w2.heap.size w2 w4) := Lib.hid (bstep B2.out hb4 (Nat.le_refl _))
  have B3 : Hid (Below w3.heap.size w3 w4) := Lib.hid hb4
  clear hb4
  go_wp2_with fail
  go_at_call 14; (with_reducible refine (c14.out _).mono ?_); rintro e w5 ⟨v3, rfl, hO3, hb5⟩
  obtain ⟨hc5, hf5⟩ := bcell hb5
  have s5 := hb5.size
  simp only [World.size_alloc] at s5 hO3
  have t5 : w1.heap.size < w5.heap.size := by omega
  have u5 : w4.heap.size < w5.heap.size := by omega
  replace BT : Hid (Below w.heap.size w w5) := Lib.hid (bstepA BT.out hb5 (Nat.le_refl _))
  replace B2 : Hid (Below w2.heap.size w2 w5) := Lib.hid (bstepA B2.out hb5 (Nat.le_refl _))
  replace B3 : Hid (Below w3.heap.size w3 w5) := Lib.hid (bstepA B3.out hb5 (Nat.le_refl _))
  have O3 := Lib.hid hO3
  clear hb5 hO3
  obtain ⟨A1, k1, rfl⟩ := O1.out.len
  obtain ⟨A2, k2, rfl⟩ := O2.out.len
  obtain ⟨A3, k3, rfl⟩ := O3.out.len
  have hn0 : ((LL.length : Int) != (LL.length : Int)) = false := by simp
  generalize hn : LL.length = n at *
  have HN := Lib.hid hn
  clear hn
  go_wp2_with (go_at_call 15; (with_reducible refine (works9 _).mono ?_); rintro e w6 ⟨rfl, hb6⟩)
  have s6 := hb6.size
  obtain ⟨vs, hLA⟩ := LawAt.start (w0 := w) (b3 := w4.heap.size + 1) O1.out (bstep B2.out hb6 (Nat.le_refl _)) (O2.out.below (bstep B3.out hb6 (Nat.le_refl _))) (O3.out.below hb6) (bstep BT.out hb6 (Nat.le_refl _)) (by omega) (by omega) (by omega) (by omega)
  have HLA := Lib.hid hLA
  clear hLA O1 O2 O3 B2 B3 BT hb6 hc2 hf2 hc3 hf3 hc4 hf4 hc5 hf5 q0 c11 c12 c13 c14 hn0
  generalize w1.heap.size + 1 = b1 at *
  generalize w4.heap.size + 1 = b3 at *
  go_loopw [80] (fun u wr => ∃ i : Nat, u = .int .i64 i ∧ i ≤ n ∧ Hid (LawAt b1 w2.heap.size b3 (.slice A1 n k1) vs (.slice A2 n k2) (.slice A3 n k3) LL w i wr)) (fun u _ => (n - intOf u).toNat)
  case atStart => exact ⟨0, rfl, by omega, HLA.out⟩
  case round =>
    clear HLA
    obtain ⟨i, rfl, hin, hH⟩ := hrel
    rename World => wo
    by_cases hlt : i < n
    · obtain ⟨Li, hLi⟩ : ∃ l, LL[i]? = some l := ⟨_, List.getElem?_eq_getElem (by rw [HN.out]; exact hlt)⟩
      have hvl : vs.length = n := by have := own_len hH.out.out; rw [HN.out] at this; omega
      obtain ⟨ui, hui⟩ : ∃ u, vs[i]? = some u := ⟨_, List.getElem?_eq_getElem (by omega)⟩
      have HV := Lib.hid hvl
      have hLe : Li.length ≤ 4096 := HR.out Li (List.mem_of_getElem? hLi)
      have hrow := hH.out.rows i ui Li (Nat.le_refl _) hui hLi
      obtain ⟨Ai, ci, rfl⟩ := own_slice hrow
      obtain ⟨g2, uk, hA2, hg2, hk2, hr2⟩ := OwnLL.at' HN.out hH.out.k hLi
      obtain ⟨g3, um, hA3, hg3, hk3, hr3⟩ := OwnLL.at' HN.out hH.out.m hLi
      obtain ⟨g1, hA1, _, hg1⟩ := own_at (HN.out ▸ hH.out.out) (by omega)
      subst hA1 hA2 hA3
      have hk1 := LawAt.cell HN.out hH.out hui
      have hs1 := same_at hrow hr3 hLe
      have hs2 := same_at hr2 hr3 hLe
      obtain ⟨Ak, ck, rfl⟩ := own_slice hr2
      obtain ⟨Am, cm, rfl⟩ := own_slice hr3
      have HX := Lib.hid (And.intro hui (And.intro hLi hrow))
      clear hui hLi hrow hr2 hr3 hvl
      generalize hni : Li.length = ni at *
      have HNI := Lib.hid hni
      clear hni
      go_wp2
      go_quiet ((first | (go_at_call 16; with_reducible exact hs1 _) | (go_at_call 16; with_reducible exact hs2 _)))
      go_wp2
      have HA : Hid (LawAt b1 w2.heap.size b3 (.slice (some ⟨g1, 0, none⟩) n k1) vs (.slice (some ⟨g2, 0, none⟩) n k2) (.slice (some ⟨g3, 0, none⟩) n k3) LL w i (wo.drewN nq)) := hH.out.grown (grow_drewN _ _ none) (Nat.le_refl _) (fun b hb => by cases hb)
      have HO : Hid (∃ ys, (wo.drewN nq).ownsRow b1 23 3 (.slice Ai ni ci) ni ys) := by
        obtain ⟨_, _, hrow⟩ := HX.out
        refine ⟨rowOf Li, ?_⟩
        have := own_below hrow (below_drewN (Below.refl wo.heap.size wo) nq)
        exact this
      clear hH hs1 hs2 hk1 hk2 hk3 hg1 hg2 hg3
      generalize wo.drewN nq = wA at *
      go_loopw [110] (fun u wr => ∃ j : Nat, u = .int .i64 j ∧ j ≤ ni ∧ Hid (∃ ys, wr.ownsRow b1 23 3 (.slice Ai ni ci) ni ys) ∧ Hid (wA.grownBy wr (Value.slice Ai ni ci).ownBlock)) (fun u _ => (ni - intOf u).toNat)
      case atStart => exact ⟨0, rfl, by omega, HO.out, World.grownBy.refl _ _⟩
      case round =>
        clear HO
        obtain ⟨j, rfl, hjn, hO, hG⟩ := hrel
        rename World => wi
        have HB : Hid (LawAt b1 w2.heap.size b3 (.slice (some ⟨g1, 0, none⟩) n k1) vs (.slice (some ⟨g2, 0, none⟩) n k2) (.slice (some ⟨g3, 0, none⟩) n k3) LL w (i + 1) wi) := HA.out.grown hG.out (by omega) (fun b hb => ⟨i, _, by omega, HX.out.1, hb⟩)
        have hk1 := LawAt.cell HN.out HB.out HX.out.1
        have hg1 := (HB.out.out.lt g1 rfl).2
        by_cases hjl : j < ni
        · obtain ⟨ys, hO2⟩ := hO.out
          obtain ⟨gi, hAi, hgi, hgi2⟩ := own_at hO2 (by omega)
          subst hAi
          obtain ⟨⟨x0, x1, x2, y0, y1, y2⟩, hfz⟩ := own_cells hO2 hjl
          have hne : g1 ≠ gi := by
            have := HB.out.ne i _ HX.out.1
            simpa [Value.ownBlock] using this
          have HO2 := Lib.hid hO2
          clear hO2 hO
          go_wp2
          go_roundw
          case rel =>
            exact ⟨j + 1, by simp, by omega, own_store3 HO2.out _ _ _ _ _ _, grow_same (grow_same (grow_same hG.out (grow_set _ _ _ _)) (grow_set _ _ _ _)) (grow_set _ _ _ _)⟩
          case measure => simp [intOf]; omega
        · obtain ⟨ys, hO2⟩ := hO.out
          have HO2 := Lib.hid hO2
          clear hO2 hO
          have hbw : b1 ≤ wi.heap.size := Nat.le_trans HB.out.h2 (Nat.le_trans HB.out.h3 HB.out.hb3)
          have hkA : (wi.alloc (Obj.cells #[.int .i64 0, .int .i64 0, .int .i64 0] 23)).cell? ⟨g1, i, none⟩ = some (.slice Ai ni ci) := (Below.cell ((Below.refl wi.heap.size wi).alloc (Nat.le_refl _) _) (p := ⟨g1, i, none⟩) hg1).trans hk1
          go_wp2_with (at_builtin
                       refine wpList_append_own _ rfl _ _ 32 rfl b1 23 i0 (.agg #[.int .i64 0, .int .i64 0, .int .i64 0]) 3 24 Try.underlying32 hi hz0 hz1 hz2 rfl (by decide) (.slice Ai ni ci) _ _ rfl (HO2.out.alloc _) ⟨wi.heap.size, 0, none⟩ 1 1 (binCells ⟨0, 0, 0⟩) rfl rfl (bin_at wi ⟨0, 0, 0⟩) (binCells_one ⟨0, 0, 0⟩) (by unfold maxLen; omega) (by omega) (by simp; omega) ?_
                       intro v7 w7 hown7 hgrow7 _
                       obtain ⟨A7, c7, rfl⟩ := own_slice hown7
                       have HG7 := Lib.hid hgrow7
                       clear hown7 hgrow7)
          have HC : Hid (LawAt b1 w2.heap.size b3 (.slice (some ⟨g1, 0, none⟩) n k1) vs (.slice (some ⟨g2, 0, none⟩) n k2) (.slice (some ⟨g3, 0, none⟩) n k3) LL w (i + 1) w7) := (HB.out.grown (World.grownBy_alloc wi (Obj.cells #[.int .i64 0, .int .i64 0, .int .i64 0] 23) none) (Nat.le_refl _) (fun b hb => by cases hb)).grown HG7.out (Nat.le_refl _) (fun b hb => ⟨i, _, by omega, HX.out.1, hb⟩)
          clear HB HG7 HO2 hk1 hkA
          obtain ⟨g2', uk', hA2, hg2, hk2, hr2⟩ := OwnLL.at' HN.out HC.out.k HX.out.2.1
          obtain ⟨g3', um', hA3, hg3, hk3, hr3⟩ := OwnLL.at' HN.out HC.out.m HX.out.2.1
          obtain rfl : g2 = g2' := by simpa using hA2
          obtain rfl : g3 = g3' := by simpa using hA3
          have hs2 := same_at hr2 hr3 (by rw [HNI.out]; exact hLe)
          obtain ⟨Ak', ck', rfl⟩ := own_slice hr2
          obtain ⟨Am', cm', rfl⟩ := own_slice hr3
          rw [HNI.out] at hk2 hk3 hs2
          clear hr2 hr3 hA2 hA3
          go_quiet ((go_at_call 16; with_reducible exact hs2 _))
          go_wp2
          go_roundw
          case rel => exact ⟨i + 1, by simp, by omega, HC.out.grown (grow_drewN _ _ none) (Nat.le_refl _) (fun b hb => by cases hb)⟩
          case measure => simp [intOf]; omega
    · have hie : i = n := by omega
      go_wp2
      go_loopw [152] (fun u wr => ∃ t : Nat, u = .int .i64 t ∧ t ≤ n ∧ Hid (LawAt b1 w2.heap.size b3 (.slice A1 n k1) vs (.slice A2 n k2) (.slice A3 n k3) LL w i wr)) (fun u _ => (n - intOf u).toNat)
      case atStart => exact ⟨0, rfl, by omega, hH.out⟩
      case round =>
        clear hH
        obtain ⟨t, rfl, htn, hH⟩ := hrel
        rename World => wi
        by_cases htl : t < n
        · obtain ⟨Li, hLi⟩ : ∃ l, LL[t]? = some l := ⟨_, List.getElem?_eq_getElem (by rw [HN.out]; exact htl)⟩
          have hLe : Li.length ≤ 4096 := HR.out Li (List.mem_of_getElem? hLi)
          obtain ⟨g2, uk, hA2, hg2, hk2, hr2⟩ := OwnLL.at' HN.out hH.out.k hLi
          obtain ⟨g3, um, hA3, hg3, hk3, hr3⟩ := OwnLL.at' HN.out hH.out.m hLi
          subst hA2 hA3
          have hs2 := same_at hr2 hr3 hLe
          obtain ⟨Ak, ck, rfl⟩ := own_slice hr2
          obtain ⟨Am, cm, rfl⟩ := own_slice hr3
          clear hLi hr2 hr3
          generalize Li.length = ni at *
          go_wp2
          go_quiet ((go_at_call 16; with_reducible exact hs2 _))
          go_wp2
          go_roundw
          case rel => exact ⟨t + 1, by simp, by omega, hH.out.grown (grow_drewN _ _ none) (Nat.le_refl _) (fun b hb => by cases hb)⟩
          case measure => simp [intOf]; omega
        · go_wp2
          go_ret
          exact ⟨rfl, hH.out.b⟩

end Go.Proofs.Ytljhbjkdifmonaa

/- The law CycleLists: every number. -/
namespace Go.Proofs.Ytljhbjkdifmonaa
open Go.RowKit Pq

theorem root_small {d : Int} (h : crossB d = true) (hd : d ≤ 65536) : rt d ≤ 255 := by
  obtain ⟨hc, _, _⟩ := crossB_true h
  have h1 := hc.lt
  apply Decidable.byContradiction
  intro h2
  have h3 : (256 : Int) * 256 ≤ rt d * rt d := mul_self_le (by omega) (by omega)
  omega
theorem law3 (d : Int) (w : World) (_ : (Lit.int .i64 d).wf = true) : Calls Try.prog 3 #[.int .i64 d] w fun e w' => e = .returned (.bool true) ∧ Below w.heap.size w w' := by
  by_cases h : 65536 < d ∨ crossB d = false
  · exact law3_bad d w h
  · have h1 : d ≤ 65536 := by omega
    have h2 : crossB d = true := by
      cases hc : crossB d
      · exact (h (.inr hc)).elim
      · rfl
    obtain ⟨hc, _, h4⟩ := crossB_true h2
    exact law3_ok d (rt d) w hc h1 h2 h4 (root_small h2 h1)

end Go.Proofs.Ytljhbjkdifmonaa
