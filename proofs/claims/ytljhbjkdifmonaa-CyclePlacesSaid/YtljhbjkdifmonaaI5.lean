/- Cycles as classes: each reduced form stands once in the list of all cycles, and two stand in one cycle just if one follows the other. -/
import Derived.Test.YtljhbjkdifmonaaG1
import Derived.Test.YtljhbjkdifmonaaQy2
import Derived.Test.YtljhbjkdifmonaaG3
import Derived.Test.YtljhbjkdifmonaaG4
import Derived.OneCell
import Derived.Test.YtljhbjkdifmonaaG2
namespace Pq

theorem It_mul {d s : Int} {f : Bin} {N : Nat} (h : It d s N f = f) : ∀ m, It d s (N * m) f = f
  | 0 => rfl
  | m + 1 => by rw [Nat.mul_succ, It_add, It_mul h m, h]
theorem It_mod {d s : Int} {f : Bin} {N : Nat} (h : It d s N f = f) (k : Nat) : It d s (k % N) f = It d s k f := by
  conv => rhs; rw [← Nat.div_add_mod k N]
  rw [It_add, It_mul h]

theorem mem_cy {d s : Int} (h : Cross d s) (hs : s ≤ 255) {f : Bin} (hf : f.disc = d) (hr : Red s f) (g : Bin) : g ∈ cy d s f ↔ ∃ k, g = It d s k f := by
  obtain ⟨h0, _, h2, _⟩ := per_spec h hs hf hr
  constructor
  · intro hg
    obtain ⟨k, _, rfl⟩ := List.mem_map.1 hg
    exact ⟨k, rfl⟩
  · rintro ⟨k, rfl⟩
    exact List.mem_map.2 ⟨k % per d s f, List.mem_range.2 (Nat.mod_lt _ h0), It_mod h2 k⟩
theorem self_mem_cy {d s : Int} (h : Cross d s) (hs : s ≤ 255) {f : Bin} (hf : f.disc = d) (hr : Red s f) : f ∈ cy d s f := (mem_cy h hs hf hr f).2 ⟨0, rfl⟩
theorem cy_back {d s : Int} (h : Cross d s) (hs : s ≤ 255) {f : Bin} (hf : f.disc = d) (hr : Red s f) (k : Nat) : ∃ j, f = It d s j (It d s k f) := by
  obtain ⟨h0, _, h2, _⟩ := per_spec h hs hf hr
  refine ⟨per d s f * k - k, ?_⟩
  rw [← It_add]
  have : k ≤ per d s f * k := Nat.le_mul_of_pos_left k h0
  rw [Nat.add_sub_cancel' this, It_mul h2]
theorem cy_nodup {d s : Int} (h : Cross d s) (hs : s ≤ 255) {f : Bin} (hf : f.disc = d) (hr : Red s f) : (cy d s f).Nodup := by
  obtain ⟨h0, _, h2, h3⟩ := per_spec h hs hf hr
  refine nodup_map _ _ List.nodup_range fun x hx y hy e => ?_
  have hx' := List.mem_range.1 hx
  have hy' := List.mem_range.1 hy
  rcases Nat.lt_trichotomy x y with hlt | heq | hlt
  · have := It_back h x (y - x) hf hr (by rw [Nat.add_sub_cancel' (by omega)]; exact e)
    exact (h3 (y - x) (by omega) (by omega) this).elim
  · exact heq
  · have := It_back h y (x - y) hf hr (by rw [Nat.add_sub_cancel' (by omega)]; exact e.symm)
    exact (h3 (x - y) (by omega) (by omega) this).elim

structure AllAt (d s : Int) (l : List Bin) (i : Nat) (LL : List (List Bin)) : Prop where
  rows : ∀ r ∈ LL, ∃ f, f.disc = d ∧ Red s f ∧ f ∈ l ∧ r = cy d s f
  nodup : LL.flatten.Nodup
  all : ∀ j, j < i → nth l j ∈ LL.flatten

theorem allAt {d s : Int} (h : Cross d s) (hs : s ≤ 255) (l : List Bin) (hl : ∀ f ∈ l, f.disc = d ∧ Red s f) : ∀ i, i ≤ l.length → AllAt d s l i (outTo d s l i)
  | 0, _ => ⟨fun r hr => by simp [outTo] at hr, by simp [outTo], fun j hj => by omega⟩
  | i + 1, hi => by
    have ih := allAt h hs l hl i (by omega)
    have hm : nth l i ∈ l := nth_mem (by omega)
    obtain ⟨hfd, hfr⟩ := hl _ hm
    by_cases hmem : nth l i ∈ (outTo d s l i).flatten
    · rw [outTo_mem i hmem]
      refine ⟨ih.rows, ih.nodup, fun j hj => ?_⟩
      rcases (show j < i ∨ j = i by omega) with h1 | rfl
      · exact ih.all j h1
      · exact hmem
    · rw [outTo_new i hmem]
      refine ⟨fun r hr => ?_, ?_, fun j hj => ?_⟩
      · rcases List.mem_append.1 hr with h1 | h1
        · exact ih.rows r h1
        · simp at h1; subst h1; exact ⟨_, hfd, hfr, hm, rfl⟩
      · rw [List.flatten_append, List.nodup_append]
        refine ⟨ih.nodup, by simpa using cy_nodup h hs hfd hfr, fun x hx y hy e => ?_⟩
        subst e
        simp at hy
        obtain ⟨k, rfl⟩ := (mem_cy h hs hfd hfr x).1 hy
        obtain ⟨r, hr, hxr⟩ := List.mem_flatten.1 hx
        obtain ⟨f0, h1, h2, _, rfl⟩ := ih.rows r hr
        obtain ⟨k0, hk0⟩ := (mem_cy h hs h1 h2 _).1 hxr
        obtain ⟨j, hj⟩ := cy_back h hs hfd hfr k
        refine hmem (List.mem_flatten.2 ⟨_, hr, (mem_cy h hs h1 h2 _).2 ⟨k0 + j, ?_⟩⟩)
        rw [It_add, ← hk0]; exact hj
      · rw [List.flatten_append]
        rcases (show j < i ∨ j = i by omega) with h1 | rfl
        · exact List.mem_append_left _ (ih.all j h1)
        · exact List.mem_append_right _ (by simpa using self_mem_cy h hs hfd hfr)

/-- In which row a form stands, from 1 on; 0: in none. -/
def plc (LL : List (List Bin)) (f : Bin) : Nat := match LL.findIdx? (fun r => decide (f ∈ r)) with | some i => i + 1 | none => 0
theorem plc_none {LL : List (List Bin)} {f : Bin} (h : f ∉ LL.flatten) : plc LL f = 0 := by
  have : LL.findIdx? (fun r => decide (f ∈ r)) = none := by
    rw [List.findIdx?_eq_none_iff]
    intro r hr
    simp
    exact fun hf => h (List.mem_flatten.2 ⟨r, hr, hf⟩)
  unfold plc; rw [this]
theorem row_unique {LL : List (List Bin)} (hn : LL.flatten.Nodup) {i j : Nat} {r r' : List Bin} {f : Bin} (hi : LL[i]? = some r) (hj : LL[j]? = some r') (h1 : f ∈ r) (h2 : f ∈ r') : i = j := by
  have key : ∀ (LL : List (List Bin)), LL.flatten.Nodup → ∀ (i j : Nat) (r r' : List Bin), i < j → LL[i]? = some r → LL[j]? = some r' → f ∈ r → f ∈ r' → False := by
    intro LL
    induction LL with
    | nil => intro _ i j r r' _ hi; simp at hi
    | cons a LL ih =>
      intro hn i j r r' hij hi hj h1 h2
      rw [List.flatten_cons, List.nodup_append] at hn
      obtain ⟨j', rfl⟩ : ∃ j', j = j' + 1 := ⟨j - 1, by omega⟩
      rw [List.getElem?_cons_succ] at hj
      cases i with
      | zero =>
        simp at hi; subst hi
        exact hn.2.2 f h1 f (List.mem_flatten.2 ⟨r', List.mem_of_getElem? hj, h2⟩) rfl
      | succ i =>
        rw [List.getElem?_cons_succ] at hi
        exact ih hn.2.1 i j' r r' (by omega) hi hj h1 h2
  rcases Nat.lt_trichotomy i j with h | h | h
  · exact (key LL hn i j r r' h hi hj h1 h2).elim
  · exact h
  · exact (key LL hn j i r' r h hj hi h2 h1).elim
theorem plc_at {LL : List (List Bin)} (hn : LL.flatten.Nodup) {i : Nat} {r : List Bin} {f : Bin} (hi : LL[i]? = some r) (h1 : f ∈ r) : plc LL f = i + 1 := by
  unfold plc
  cases hq : LL.findIdx? (fun r => decide (f ∈ r)) with
  | none =>
    rw [List.findIdx?_eq_none_iff] at hq
    have := hq r (List.mem_of_getElem? hi)
    simp at this
    exact (this h1).elim
  | some k =>
    obtain ⟨hk, hp, _⟩ := List.findIdx?_eq_some_iff_getElem.1 hq
    have := row_unique hn (List.getElem?_eq_getElem hk) hi (by simpa using hp) h1
    simp [this]
theorem plc_pos {LL : List (List Bin)} (hn : LL.flatten.Nodup) {f : Bin} (h : f ∈ LL.flatten) : ∃ i r, LL[i]? = some r ∧ f ∈ r ∧ plc LL f = i + 1 := by
  obtain ⟨r, hr, hf⟩ := List.mem_flatten.1 h
  obtain ⟨i, hi, rfl⟩ := List.mem_iff_getElem.1 hr
  exact ⟨i, LL[i], List.getElem?_eq_getElem hi, hf, plc_at hn (List.getElem?_eq_getElem hi) hf⟩

/-- Two forms of the list stand in one row just if the second is on the first one's cycle. -/
theorem plc_iff {d s : Int} (h : Cross d s) (hs : s ≤ 255) {l : List Bin} {i : Nat} {LL : List (List Bin)} (hA : AllAt d s l i LL) {x y : Bin} (hx : x ∈ LL.flatten) (hxd : x.disc = d) (hxr : Red s x) : plc LL x = plc LL y ↔ y ∈ cy d s x := by
  obtain ⟨i, r, hi, hxi, hpi⟩ := plc_pos hA.nodup hx
  obtain ⟨f, hfd, hfr, _, rfl⟩ := hA.rows r (List.mem_of_getElem? hi)
  obtain ⟨k, hk⟩ := (mem_cy h hs hfd hfr x).1 hxi
  constructor
  · intro he
    by_cases hy : y ∈ LL.flatten
    · obtain ⟨j, r', hj, hyj, hpj⟩ := plc_pos hA.nodup hy
      have : i = j := by omega
      subst this
      rw [hi] at hj
      simp at hj; subst hj
      obtain ⟨m, hm⟩ := (mem_cy h hs hfd hfr y).1 hyj
      obtain ⟨b, hb⟩ := cy_back h hs hfd hfr k
      refine (mem_cy h hs hxd hxr y).2 ⟨b + m, ?_⟩
      rw [It_add, hk, ← hb]; exact hm
    · rw [plc_none hy] at he; omega
  · intro hy
    obtain ⟨m, hm⟩ := (mem_cy h hs hxd hxr y).1 hy
    rw [hpi, plc_at hA.nodup hi ((mem_cy h hs hfd hfr y).2 ⟨k + m, by rw [It_add, ← hk]; exact hm⟩)]

/-- The common divisor of the coefficients stays. -/
theorem prim_nxt {d s : Int} (h : Cross d s) {f : Bin} (hf : f.disc = d) (hp : prim f) : prim (nxt d s f) := by
  obtain ⟨k, hk⟩ := nb_form s f
  have hc := h.c_ne hf
  have hnc := nxt_c hc hf hk
  unfold prim at hp ⊢
  have hb : (nxt d s f).b = -f.b + 2 * f.c * k := hk
  have ha : (nxt d s f).a = f.c := rfl
  rw [ha, hb]
  generalize hg : Nat.gcd (Nat.gcd f.c.natAbs (-f.b + 2 * f.c * k).natAbs) (nxt d s f).c.natAbs = g
  have g1 : (g : Int) ∣ f.c := Int.ofNat_dvd_left.2 (hg ▸ Nat.dvd_trans (Nat.gcd_dvd_left _ _) (Nat.gcd_dvd_left _ _))
  have g2 : (g : Int) ∣ -f.b + 2 * f.c * k := Int.ofNat_dvd_left.2 (hg ▸ Nat.dvd_trans (Nat.gcd_dvd_left _ _) (Nat.gcd_dvd_right _ _))
  have g3 : (g : Int) ∣ (nxt d s f).c := Int.ofNat_dvd_left.2 (hg ▸ Nat.gcd_dvd_right _ _)
  obtain ⟨u, hu⟩ := g1
  obtain ⟨v, hv⟩ := g2
  obtain ⟨x, hx⟩ := g3
  have e1 : f.b = (g : Int) * (2 * u * k - v) := by grind
  have e2 : f.a = (g : Int) * (x + (2 * u * k - v) * k - u * k * k) := by grind
  have d1 : g ∣ f.c.natAbs := Int.ofNat_dvd_left.1 ⟨u, hu⟩
  have d2 : g ∣ f.b.natAbs := Int.ofNat_dvd_left.1 ⟨_, e1⟩
  have d3 : g ∣ f.a.natAbs := Int.ofNat_dvd_left.1 ⟨_, e2⟩
  have := Nat.dvd_gcd (Nat.dvd_gcd d3 d2) d1
  rw [hp] at this
  exact Nat.dvd_one.1 this
theorem prim_It {d s : Int} (h : Cross d s) {f : Bin} (hf : f.disc = d) (hp : prim f) : ∀ n, prim (It d s n f)
  | 0 => hp
  | n + 1 => by rw [It_succ']; exact prim_nxt h (It_disc h n hf) (prim_It h hf hp n)

end Pq

/- cycle.Next at one form; cycle.Cycle of a form that is let in; slices.Index and slices.Contains. -/
namespace Go.Proofs.Ytljhbjkdifmonaa
open Go.RowKit Pq

theorem next_w_pure : YtljhbjkdifmonaaX.Q.cycle_Next.f 1 0 (-2) = some (-2, 0, 1, 0, -1, 1, 0, 0) := by kernel_rfl
theorem next_w (w : World) : Calls Try.prog 56 #[.agg #[.int .i64 1, .int .i64 0, .int .i64 (-2)]] w fun e w' => e = .returned (.tuple #[.agg #[.int .i64 (-2), .int .i64 0, .int .i64 1], .agg #[.int .i64 0, .int .i64 (-1), .int .i64 1, .int .i64 0], .int .i64 0]) ∧ Below w.heap.size w w' :=
  YtljhbjkdifmonaaX.Q.cycle_Next.calls 1 0 (-2) _ _ _ _ _ _ _ _ w next_w_pure

set_option maxRecDepth 100000 in
set_option maxHeartbeats 2000000 in
theorem cycle_calls (f g : Bin) (T : Trn) (l : List Bin) (N : Nat) (w : World)
    (hr : ∀ W, Calls Try.prog 17 #[.agg #[.int .i64 f.a, .int .i64 f.b, .int .i64 f.c]] W fun e w' => e = .returned (.tuple #[.agg #[.int .i64 g.a, .int .i64 g.b, .int .i64 g.c], .agg #[.int .i64 T.p, .int .i64 T.q, .int .i64 T.r, .int .i64 T.s], .int .i64 0]) ∧ Below W.heap.size W w')
    (hc : ∀ W, Calls Try.prog 50 #[.agg #[.int .i64 g.a, .int .i64 g.b, .int .i64 g.c]] W fun e w' => ∃ v, e = .returned (.tuple #[v, .bool false]) ∧ w'.ownsRow W.heap.size 23 3 v N (rowOf l) ∧ Below W.heap.size W w') :
    Calls Try.prog 55 #[.agg #[.int .i64 f.a, .int .i64 f.b, .int .i64 f.c]] w fun e w' => ∃ v, e = .returned (.tuple #[v, .int .i64 0]) ∧ w'.ownsRow w.heap.size 23 3 v N (rowOf l) ∧ Below w.heap.size w w' := by
  obtain ⟨fa, fb, fc⟩ := f
  obtain ⟨ga, gb, gc⟩ := g
  obtain ⟨p, q, r, s⟩ := T
  simp only at hr hc ⊢
  go_enter Try.func55, Try.ntmps55
  go_wp2_with (first
    | (go_at_call 17; refine (hr _).mono ?_; rintro e w1 ⟨rfl, hb1⟩; obtain ⟨hc1, hf1⟩ := bcell hb1
       have hs1 := hb1.size
       simp only [World.size_alloc] at hs1)
    | (go_at_call 50; refine (hc _).mono ?_; rintro e w2 ⟨v2, rfl, ho2, hb2⟩
       have B2 := Lib.hid (And.intro ho2 hb2)
       clear ho2 hb2))
  go_ret2
  obtain ⟨ho2, hb2⟩ := B2.out
  refine ⟨_, rfl, own_base ho2 (by simp; omega), ?_⟩
  refine ((((Below.refl w.heap.size w).alloc (Nat.le_refl _) _).trans (hb1.mono (by simp))).alloc (by omega) _ |>.alloc (by simp; omega) _).trans (hb2.mono (by simp; omega))

end Go.Proofs.Ytljhbjkdifmonaa

/- slices.Index and slices.Contains of a list of forms; cycle.Proper. -/
namespace Go.Proofs.Ytljhbjkdifmonaa
open Go.RowKit Pq

/-- Where a form stands first; -1: nowhere. -/
def fidx (l : List Bin) (f : Bin) : Int := if f ∈ l then (l.idxOf f : Int) else -1
theorem fidx_nonneg (l : List Bin) (f : Bin) : decide (0 ≤ fidx l f) = decide (f ∈ l) := by
  unfold fidx; split <;> simp [*]

theorem below_drewN' {B : Nat} {a w : World} (h : Below B a w) (n : Nat) : Below B a (w.drewN n) := ⟨h.os, h.tape, h.output, h.size, h.block⟩

set_option maxRecDepth 100000 in
set_option maxHeartbeats 1000000 in
theorem index_any (l : List Bin) (f : Bin) (hlen : l.length ≤ 1000000) (w : World) (b1 : Nat) (u : Value) (h1 : w.ownsRow b1 23 3 u l.length (rowOf l)) :
    Calls Try.prog 88 #[u, .agg #[.int .i64 f.a, .int .i64 f.b, .int .i64 f.c]] w fun e w' => e = .returned (.int .i64 (fidx l f)) ∧ Below w.heap.size w w' := by
  obtain ⟨A, c, rfl⟩ := own_slice h1
  have H := Lib.hid (own_below h1 ((Below.refl w.heap.size w).alloc (Nat.le_refl _) (Obj.cells #[.int .i64 f.a, .int .i64 f.b, .int .i64 f.c] 23)))
  clear h1
  have hblk := Blk.new w 23 #[.int .i64 f.a, .int .i64 f.b, .int .i64 f.c]
  have HBL : Hid (Below w.heap.size w (w.alloc (Obj.cells #[.int .i64 f.a, .int .i64 f.b, .int .i64 f.c] 23))) := ((Below.refl w.heap.size w).alloc (Nat.le_refl _) _)
  generalize hn : l.length = n at *
  have HN := Lib.hid hn
  clear hn
  obtain ⟨v, hv⟩ : ∃ v, v = fidx l f := ⟨_, rfl⟩
  have HV := Lib.hid hv
  rw [← hv]
  clear hv
  go_enter Try.func88, Try.ntmps88
  go_wp2
  generalize hW : w.alloc (Obj.cells #[.int .i64 f.a, .int .i64 f.b, .int .i64 f.c] 23) = W at *
  clear hW
  go_loopw [8] (fun u wr => ∃ (t : Nat), u = .int .i64 t ∧ t ≤ n ∧ Hid (∀ j, j < t → nth l j ≠ f) ∧ ∃ m, wr = W.drewN m) (fun u _ => (n - intOf u).toNat)
  case atStart => exact ⟨0, rfl, by omega, (fun j hj => by omega), 0, rfl⟩
  case round =>
    obtain ⟨t, rfl, htn, hno, m, rfl⟩ := hrel
    by_cases hlt : t < n
    · have hn0 : 0 < n := by omega
      obtain ⟨g, hA, hg⟩ := own_at H.out hn0
      subst hA
      obtain ⟨x0, x1, x2⟩ := own_bin (HN.out.symm ▸ H.out) (k := t) (by rw [HN.out]; exact hlt)
      obtain ⟨y0, y1, y2⟩ := hblk.c3
      by_cases he : f = nth l t
      · have hne := fun W => eql23 W f (nth l t)
        rw [decide_eq_true he] at hne
        have HE := Lib.hid he
        clear he
        go_wp2
        go_quiet (fail)
        go_wp2
        go_ret
        refine ⟨ret_int ?_, below_drewN' (below_drewN' HBL.out _) _⟩
        have hm : f ∈ l := by rw [HE.out]; exact nth_mem (by rw [HN.out]; exact hlt)
        rw [HV.out]; unfold fidx; rw [if_pos hm]
        have h1 : l.idxOf f = t := by
          have hlt2 : l.idxOf f < l.length := List.idxOf_lt_length_of_mem hm
          have e1 : nth l (l.idxOf f) = f := by rw [nth_eq hlt2]; exact List.getElem_idxOf hlt2
          rcases Nat.lt_trichotomy (l.idxOf f) t with h | h | h
          · exact (hno.out _ h e1).elim
          · exact h
          · have h5 := List.not_of_lt_findIdx (p := (· == f)) (xs := l) (i := t) h
            have h6 : t < l.length := by rw [HN.out]; exact hlt
            rw [← nth_eq h6, ← HE.out] at h5
            simp at h5
        rw [h1]
      · have hne := fun W => eql23 W f (nth l t)
        rw [decide_eq_false he] at hne
        have HE := Lib.hid he
        clear he
        go_wp2
        go_quiet (fail)
        go_wp2
        go_roundw
        case rel => exact ⟨t + 1, by simp, by omega, (fun j hj => by rcases (show j < t ∨ j = t by omega) with h | rfl; exact hno.out j h; exact fun h => HE.out h.symm), m + nq, rfl⟩
        case measure => simp [intOf]; omega
    · go_wp2
      go_ret
      refine ⟨ret_int ?_, below_drewN' HBL.out _⟩
      have hm : f ∉ l := fun hm => by
        have hlt2 : l.idxOf f < l.length := List.idxOf_lt_length_of_mem hm
        have e1 : nth l (l.idxOf f) = f := by rw [nth_eq hlt2]; exact List.getElem_idxOf hlt2
        exact hno.out _ (by rw [HN.out] at hlt2; omega) e1
      rw [HV.out]; unfold fidx; rw [if_neg hm]

set_option maxRecDepth 100000 in
theorem contains_any (l : List Bin) (f : Bin) (hlen : l.length ≤ 1000000) (w : World) (b1 : Nat) (u : Value) (h1 : w.ownsRow b1 23 3 u l.length (rowOf l)) :
    Calls Try.prog 59 #[u, .agg #[.int .i64 f.a, .int .i64 f.b, .int .i64 f.c]] w fun e w' => e = .returned (.bool (decide (f ∈ l))) ∧ Below w.heap.size w w' := by
  have hi := index_any l f hlen _ b1 u (own_below h1 ((Below.refl w.heap.size w).alloc (Nat.le_refl _) (Obj.cells #[.int .i64 f.a, .int .i64 f.b, .int .i64 f.c] 23)))
  have hd := fidx_nonneg l f
  obtain ⟨A, c, rfl⟩ := own_slice h1
  clear h1
  generalize l.length = n at *
  generalize fidx l f = v at *
  generalize decide (f ∈ l) = b at *
  go_enter Try.func59, Try.ntmps59
  go_wp2_with (go_at_call 88; refine hi.mono ?_; rintro e w1 ⟨rfl, hb1⟩)
  go_ret
  exact ⟨ret_bool (by simp [hd]), ((Below.refl w.heap.size w).alloc (Nat.le_refl _) _).trans (hb1.mono (by simp))⟩

end Go.Proofs.Ytljhbjkdifmonaa

/- cycle.Proper, where both forms are let in and the cycle closes. -/
namespace Go.Proofs.Ytljhbjkdifmonaa
open Go.RowKit Pq

set_option maxRecDepth 100000 in
set_option maxHeartbeats 4000000 in
theorem proper_calls (f g x y : Bin) (T U : Trn) (l : List Bin) (N : Nat) (dx dy : Int) (w : World)
    (hrf : ∀ W, Calls Try.prog 17 #[.agg #[.int .i64 f.a, .int .i64 f.b, .int .i64 f.c]] W fun e w' => e = .returned (.tuple #[.agg #[.int .i64 x.a, .int .i64 x.b, .int .i64 x.c], .agg #[.int .i64 T.p, .int .i64 T.q, .int .i64 T.r, .int .i64 T.s], .int .i64 0]) ∧ Below W.heap.size W w')
    (hrg : ∀ W, Calls Try.prog 17 #[.agg #[.int .i64 g.a, .int .i64 g.b, .int .i64 g.c]] W fun e w' => e = .returned (.tuple #[.agg #[.int .i64 y.a, .int .i64 y.b, .int .i64 y.c], .agg #[.int .i64 U.p, .int .i64 U.q, .int .i64 U.r, .int .i64 U.s], .int .i64 0]) ∧ Below W.heap.size W w')
    (hdx : ∀ W, Calls Try.prog 57 #[.agg #[.int .i64 x.a, .int .i64 x.b, .int .i64 x.c]] W fun e w' => e = .returned (.int .i64 dx) ∧ Below W.heap.size W w')
    (hdy : ∀ W, Calls Try.prog 57 #[.agg #[.int .i64 y.a, .int .i64 y.b, .int .i64 y.c]] W fun e w' => e = .returned (.int .i64 dy) ∧ Below W.heap.size W w')
    (hc : dx = dy → ∀ W, Calls Try.prog 50 #[.agg #[.int .i64 x.a, .int .i64 x.b, .int .i64 x.c]] W fun e w' => ∃ v, e = .returned (.tuple #[v, .bool false]) ∧ w'.ownsRow W.heap.size 23 3 v N (rowOf l) ∧ Below W.heap.size W w')
    (hN : l.length = N) (hN2 : N ≤ 4096) :
    Calls Try.prog 18 #[.agg #[.int .i64 f.a, .int .i64 f.b, .int .i64 f.c], .agg #[.int .i64 g.a, .int .i64 g.b, .int .i64 g.c]] w fun e w' => e = .returned (.tuple #[.bool (decide (dx = dy ∧ y ∈ l)), .int .i64 0]) ∧ Below w.heap.size w w' := by
  obtain ⟨fa, fb, fc⟩ := f
  obtain ⟨ga, gb, gc⟩ := g
  obtain ⟨p, q, r, s⟩ := T
  obtain ⟨p', q', r', s'⟩ := U
  have HC := Lib.hid hc
  have HN := Lib.hid hN
  clear hc hN
  simp only at hrf hrg ⊢
  obtain ⟨B, hB⟩ : ∃ B, B = decide (dx = dy ∧ y ∈ l) := ⟨_, rfl⟩
  rw [← hB]
  have HBV := Lib.hid hB
  clear hB
  go_enter Try.func18, Try.ntmps18
  go_wp2_with (first
    | (go_at_call 17; (with_reducible refine (hrf _).mono ?_); rintro e w1 ⟨rfl, hb1⟩; obtain ⟨hc1, hf1⟩ := bcell hb1
       have hs1 : w.heap.size + 1 < w1.heap.size := by have := hb1.size; simp only [World.size_alloc] at this; omega
       have hs1' : w.heap.size < w1.heap.size := by omega)
    | (go_at_call 17; (with_reducible refine (hrg _).mono ?_); rintro e w2 ⟨rfl, hb2⟩; obtain ⟨hc2, hf2⟩ := bcell hb2
       have hs2 : w1.heap.size + 1 < w2.heap.size := by have := hb2.size; simp only [World.size_alloc] at this; omega
       have hs2' : w1.heap.size < w2.heap.size := by omega))
  have k6 := ((((Blk.new w1 23 #[.int .i64 x.a, .int .i64 x.b, .int .i64 x.c]).alloc (Obj.cells #[.int .i64 p, .int .i64 q, .int .i64 r, .int .i64 s] 35)).below' hb2).alloc (Obj.cells #[.int .i64 y.a, .int .i64 y.b, .int .i64 y.c] 23)).alloc (Obj.cells #[.int .i64 p', .int .i64 q', .int .i64 r', .int .i64 s'] 35)
  have k9 := (Blk.new w2 23 #[.int .i64 y.a, .int .i64 y.b, .int .i64 y.c]).alloc (Obj.cells #[.int .i64 p', .int .i64 q', .int .i64 r', .int .i64 s'] 35)
  have HB : Hid (Below w.heap.size w ((w2.alloc (Obj.cells #[.int .i64 y.a, .int .i64 y.b, .int .i64 y.c] 23)).alloc (Obj.cells #[.int .i64 p', .int .i64 q', .int .i64 r', .int .i64 s'] 35))) :=
    ((((((((Below.refl w.heap.size w).alloc (Nat.le_refl _) _).alloc (by simp) _).trans (hb1.mono (by simp; omega))).alloc (by omega) _).alloc (by simp; omega) _).trans (hb2.mono (by simp; omega))).alloc (by omega) _).alloc (by simp; omega) _
  clear hb1 hc1 hf1 hb2 hc2 hf2 hrf hrg
  generalize (w2.alloc (Obj.cells #[.int .i64 y.a, .int .i64 y.b, .int .i64 y.c] 23)).alloc (Obj.cells #[.int .i64 p', .int .i64 q', .int .i64 r', .int .i64 s'] 35) = W at *
  obtain ⟨c60, c61, c62⟩ := k6.c3
  obtain ⟨c90, c91, c92⟩ := k9.c3
  have l6 := k6.lt
  have l9 := k9.lt
  have hw0 : w.heap.size < w1.heap.size := by omega
  clear k6 k9
  generalize w1.heap.size = G6 at *
  generalize w2.heap.size = G9 at *
  go_cut [35] (fun u wc => u = .bool (dx != dy) ∧ wc.cell? ⟨G6, 0, none⟩ = some (.int .i64 x.a) ∧ wc.cell? ⟨G6, 1, none⟩ = some (.int .i64 x.b) ∧ wc.cell? ⟨G6, 2, none⟩ = some (.int .i64 x.c) ∧ wc.cell? ⟨G9, 0, none⟩ = some (.int .i64 y.a) ∧ wc.cell? ⟨G9, 1, none⟩ = some (.int .i64 y.b) ∧ wc.cell? ⟨G9, 2, none⟩ = some (.int .i64 y.c) ∧ Since W wc)
  case first =>
    go_region_held3 (fun wc => wc.cell? ⟨G6, 0, none⟩ = some (.int .i64 x.a) ∧ wc.cell? ⟨G6, 1, none⟩ = some (.int .i64 x.b) ∧ wc.cell? ⟨G6, 2, none⟩ = some (.int .i64 x.c) ∧ wc.cell? ⟨G9, 0, none⟩ = some (.int .i64 y.a) ∧ wc.cell? ⟨G9, 1, none⟩ = some (.int .i64 y.b) ∧ wc.cell? ⟨G9, 2, none⟩ = some (.int .i64 y.c) ∧ Since W wc)
      (first
        | exact ⟨c60, c61, c62, c90, c91, c92, Since.start W⟩
        | (go_split_ands
           exact (fun z => ⟨z.cell c60 l6, z.cell c61 l6, z.cell c62 l6, z.cell c90 l9, z.cell c91 l9, z.cell c92 l9, z⟩) (Since.step hb5 (by assumption))))
      (first
        | (go_at_call 57; (with_reducible refine (hdx _).mono ?_); rintro e w5 ⟨rfl, hb5⟩)
        | (go_at_call 57; (with_reducible refine (hdy _).mono ?_); rintro e w5 ⟨rfl, hb5⟩))
    go_split_ands
    go_wp2_with fail
    go_meet
    exact ⟨rfl, by assumption, by assumption, by assumption, by assumption, by assumption, by assumption, by assumption⟩
  case rest =>
    obtain ⟨rfl, e60, e61, e62, e90, e91, e92, hS⟩ := hcut
    clear c60 c61 c62 c90 c91 c92 hdx hdy
    have l9' : G9 < wc.heap.size := by have := hS.out.size; omega
    by_cases hdd : dx = dy
    · have hne : (dx != dy) = false := by simp [hdd]
      have hc := HC.out hdd
      have HD := Lib.hid hdd
      clear hdd
      have hcon := fun (W : World) (u : Value) (b1 : Nat) (ho : W.ownsRow b1 23 3 u N (rowOf l)) => contains_any l y (by rw [HN.out]; omega) W b1 u (by rw [HN.out]; exact ho)
      have hde : B = decide (y ∈ l) := by rw [HBV.out]; simp [HD.out]
      have HDE := Lib.hid hde
      clear hde
      generalize decide (y ∈ l) = b at *
      have HCON := Lib.hid hcon
      clear hcon
      go_wp2_with (first
        | (go_at_call 50; (with_reducible refine (hc _).mono ?_); rintro e w6 ⟨v6, rfl, ho6, hb6⟩
           obtain ⟨hc6, hf6⟩ := bcell hb6
           have hcon := HCON.out _ _ _ ho6
           have B6 := Lib.hid hb6
           clear ho6)
        | (go_at_call 59; (with_reducible refine hcon.mono ?_); rintro e w7 ⟨rfl, hb7⟩))
      all_goals
        go_ret2
        refine ⟨?_, (HB.out.trans (hS.out.mono HB.out.size)).trans ((B6.out.mono ?_).trans (hb7.mono ?_))⟩
        · rw [HDE.out, ‹b = _›]; rfl
        · have := HB.out.size; have := hS.out.size; omega
        · have := HB.out.size; have := hS.out.size; have := B6.out.size; omega
    · have hne : (dx != dy) = true := by simpa using hdd
      have HDD := Lib.hid hdd
      clear hdd
      go_wp2
      go_ret2
      exact ⟨by rw [HBV.out, decide_eq_false (fun h => HDD.out h.1)]; rfl, HB.out.trans (hS.out.mono HB.out.size)⟩

end Go.Proofs.Ytljhbjkdifmonaa

/- works of layer 9: the cycle of x^2 - 3 y^2. -/
namespace Go.Proofs.Ytljhbjkdifmonaa
open Go.RowKit Pq

theorem own_binM {w : World} {base g c n : Nat} {l : List Bin} (hn : l.length = n) (h : w.ownsRow base 23 3 (.slice (some ⟨g, 0, none⟩) n c) n (rowOf l)) {k : Nat} (hk : k < n) :
    w.cell? ⟨g, k * 3, none⟩ = some (.int .i64 (nth l k).a) ∧ w.cell? ⟨g, k * 3 + 1, none⟩ = some (.int .i64 (nth l k).b) ∧ w.cell? ⟨g, k * 3 + 2, none⟩ = some (.int .i64 (nth l k).c) := by
  subst hn; exact own_bin h hk
theorem cross12 : Cross 12 3 := (crossB_true (d := 12) (by decide +kernel)).1
theorem F12 (x : Bin) (hx : Within 1073741824 x) (hd : x.disc = 12) : (∀ k, It 12 3 (k + 1) x = nxt 12 3 (It 12 3 k x)) ∧ ∀ k, Within 1073741824 (It 12 3 k x) ∧ (It 12 3 k x).disc = 12 :=
  ⟨fun k => It_succ' 12 3 k x, fun k => ⟨It_within cross12 (by decide) k hd hx, It_disc cross12 k hd⟩⟩
theorem red_w1 (W : World) : Calls Try.prog 17 #[.agg #[.int .i64 1, .int .i64 0, .int .i64 (-3)]] W fun e w' => e = .returned (.tuple #[.agg #[.int .i64 1, .int .i64 2, .int .i64 (-2)], .agg #[.int .i64 (TIt 12 3 ⟨1, 0, -3⟩ 2).p, .int .i64 (TIt 12 3 ⟨1, 0, -3⟩ 2).q, .int .i64 (TIt 12 3 ⟨1, 0, -3⟩ 2).r, .int .i64 (TIt 12 3 ⟨1, 0, -3⟩ 2).s], .int .i64 0]) ∧ Below W.heap.size W w' :=
  reduce_ok ⟨1, 0, -3⟩ 2 W 3 (by decide +kernel) (by decide +kernel) (by decide +kernel) (by decide +kernel)
theorem red_w2 (W : World) : Calls Try.prog 17 #[.agg #[.int .i64 (-1), .int .i64 0, .int .i64 3]] W fun e w' => e = .returned (.tuple #[.agg #[.int .i64 (-1), .int .i64 2, .int .i64 2], .agg #[.int .i64 (TIt 12 3 ⟨-1, 0, 3⟩ 2).p, .int .i64 (TIt 12 3 ⟨-1, 0, 3⟩ 2).q, .int .i64 (TIt 12 3 ⟨-1, 0, 3⟩ 2).r, .int .i64 (TIt 12 3 ⟨-1, 0, 3⟩ 2).s], .int .i64 0]) ∧ Below W.heap.size W w' :=
  reduce_ok ⟨-1, 0, 3⟩ 2 W 3 (by decide +kernel) (by decide +kernel) (by decide +kernel) (by decide +kernel)
theorem round_w (W : World) : Calls Try.prog 50 #[.agg #[.int .i64 1, .int .i64 2, .int .i64 (-2)]] W fun e w' => ∃ v, e = .returned (.tuple #[v, .bool false]) ∧ w'.ownsRow W.heap.size 23 3 v 2 (rowOf [⟨1, 2, -2⟩, ⟨-2, 2, 1⟩]) ∧ Below W.heap.size W w' :=
  round_closes (fun k => It 12 3 k ⟨1, 2, -2⟩) 12 3 2 W (F12 _ (inB_true (by decide +kernel)) (by decide +kernel)).1 (F12 _ (inB_true (by decide +kernel)) (by decide +kernel)).2 cross12 (by decide) (by decide) (by decide) (by decide +kernel) (fun k h1 h2 => by
    obtain rfl : k = 1 := by omega
    decide +kernel)
theorem cycle_w (w : World) : Calls Try.prog 55 #[.agg #[.int .i64 1, .int .i64 0, .int .i64 (-3)]] w fun e w' => ∃ v, e = .returned (.tuple #[v, .int .i64 0]) ∧ w'.ownsRow w.heap.size 23 3 v 2 (rowOf [⟨1, 2, -2⟩, ⟨-2, 2, 1⟩]) ∧ Below w.heap.size w w' :=
  cycle_calls ⟨1, 0, -3⟩ ⟨1, 2, -2⟩ (TIt 12 3 ⟨1, 0, -3⟩ 2) [⟨1, 2, -2⟩, ⟨-2, 2, 1⟩] 2 w red_w1 round_w
theorem proper_w (w : World) : Calls Try.prog 18 #[.agg #[.int .i64 1, .int .i64 0, .int .i64 (-3)], .agg #[.int .i64 (-1), .int .i64 0, .int .i64 3]] w fun e w' => e = .returned (.tuple #[.bool false, .int .i64 0]) ∧ Below w.heap.size w w' := by
  have h := proper_calls ⟨1, 0, -3⟩ ⟨-1, 0, 3⟩ ⟨1, 2, -2⟩ ⟨-1, 2, 2⟩ (TIt 12 3 ⟨1, 0, -3⟩ 2) (TIt 12 3 ⟨-1, 0, 3⟩ 2) [⟨1, 2, -2⟩, ⟨-2, 2, 1⟩] 2 12 12 w red_w1 red_w2 (fun W => discf_any ⟨1, 2, -2⟩ W (inB_true (by decide +kernel))) (fun W => discf_any ⟨-1, 2, 2⟩ W (inB_true (by decide +kernel))) (fun _ => round_w) rfl (by decide)
  rwa [decide_eq_false (show ¬ ((12 : Int) = 12 ∧ (⟨-1, 2, 2⟩ : Bin) ∈ [(⟨1, 2, -2⟩ : Bin), ⟨-2, 2, 1⟩]) by decide +kernel)] at h

theorem eqw1 (w : World) : (binOp .eql 23 (.agg #[.int .i64 (-2), .int .i64 0, .int .i64 1]) (.agg #[.int .i64 (-2), .int .i64 0, .int .i64 1])).run Try.prog w = .ok (.bool true) w := by kernel_rfl
theorem eqw2 (w : World) : (binOp .eql 35 (.agg #[.int .i64 0, .int .i64 (-1), .int .i64 1, .int .i64 0]) (.agg #[.int .i64 0, .int .i64 (-1), .int .i64 1, .int .i64 0])).run Try.prog w = .ok (.bool true) w := by kernel_rfl
theorem eqw3 (w : World) : (binOp .eql 23 (.agg #[.int .i64 1, .int .i64 2, .int .i64 (-2)]) (.agg #[.int .i64 1, .int .i64 2, .int .i64 (-2)])).run Try.prog w = .ok (.bool true) w := by kernel_rfl
theorem eqw4 (w : World) : (binOp .eql 23 (.agg #[.int .i64 (-2), .int .i64 2, .int .i64 1]) (.agg #[.int .i64 (-2), .int .i64 2, .int .i64 1])).run Try.prog w = .ok (.bool true) w := by kernel_rfl

set_option maxRecDepth 100000 in
set_option maxHeartbeats 4000000 in
theorem works9 (w : World) : Calls Try.prog 15 #[] w fun e w' => e = .returned (.bool true) ∧ Below w.heap.size w w' := by
  have q1 := fun W => eqw1 W
  have q2 := fun W => eqw2 W
  have q3 := fun W => eqw3 W
  have q4 := fun W => eqw4 W
  go_enter Try.func15, Try.ntmps15
  go_wp2_with (first
    | (go_at_call 55; (with_reducible refine (cycle_w _).mono ?_); rintro e w1 ⟨v1, rfl, ho1, hb1⟩
       obtain ⟨A1, c1, rfl⟩ := own_slice ho1
       obtain ⟨g1, hA1, hg1, hg1'⟩ := own_at ho1 (by decide)
       subst hA1
       obtain ⟨x0, x1, x2⟩ := own_binM (l := [⟨1, 2, -2⟩, ⟨-2, 2, 1⟩]) rfl ho1 (k := 0) (by decide)
       obtain ⟨y0, y1, y2⟩ := own_binM (l := [⟨1, 2, -2⟩, ⟨-2, 2, 1⟩]) rfl ho1 (k := 1) (by decide)
       have X := Lib.hid (And.intro x0 (And.intro x1 (And.intro x2 (And.intro y0 (And.intro y1 y2)))))
       have B1 := Lib.hid hb1
       clear ho1 hb1 x0 x1 x2 y0 y1 y2)
    | (go_at_call 18; (with_reducible refine (proper_w _).mono ?_); rintro e w2 ⟨rfl, hb2⟩)
    | (go_at_call 56; (with_reducible refine (next_w _).mono ?_); rintro e w3 ⟨rfl, hb3⟩
       obtain ⟨x0, x1, x2, y0, y1, y2⟩ := X.out
       have hb23 := hb2.trans (hb3.mono hb2.size)
       have z0 := (hb23.cell (p := ⟨g1, 0, none⟩) hg1').trans x0
       have z1 := (hb23.cell (p := ⟨g1, 1, none⟩) hg1').trans x1
       have z2 := (hb23.cell (p := ⟨g1, 2, none⟩) hg1').trans x2
       have z3 := (hb23.cell (p := ⟨g1, 3, none⟩) hg1').trans y0
       have z4 := (hb23.cell (p := ⟨g1, 4, none⟩) hg1').trans y1
       have z5 := (hb23.cell (p := ⟨g1, 5, none⟩) hg1').trans y2
       have hs3 : g1 < w3.heap.size := by have := hb23.size; omega
       have B3 := Lib.hid hb23
       clear hb2 hb3 hb23 x0 x1 x2 y0 y1 y2 X))
  go_ret
  exact ⟨rfl, ((B1.out.trans (B3.out.mono B1.out.size)).alloc (Nat.le_trans B1.out.size B3.out.size) _).alloc (by have := B1.out.size; have := B3.out.size; simp; omega) _⟩

end Go.Proofs.Ytljhbjkdifmonaa

/- The law CycleLists, walked. -/
namespace Go.Proofs.Ytljhbjkdifmonaa
open Go.RowKit Pq

/-- A store into an own row leaves it an own row. -/
theorem own_store {w : World} {base : Nat} {e : TypeId} {size n g c : Nat} {xs : List Value} (h : w.ownsRow base e size (.slice (some ⟨g, 0, none⟩) n c) n xs) (j : Nat) (u : Value) :
    ∃ ys, (w.setCell ⟨g, j, none⟩ u).ownsRow base e size (.slice (some ⟨g, 0, none⟩) n c) n ys := by
  obtain ⟨hl, hr⟩ := h
  rcases hr with ⟨h1, _⟩ | ⟨g', cap, cur, h1, hb, hg, hc1, hc2, hc3, hc4⟩
  · simp at h1
  · simp only [Value.slice.injEq, Option.some.injEq, Addr.mk.injEq] at h1
    obtain ⟨⟨rfl, _, _⟩, _, rfl⟩ := h1
    have hk : Blk (w.setCell ⟨g, j, none⟩ u) g e (cur.setIfInBounds j u) := Blk.set_ (cs := cur) hg j u
    refine ⟨(cur.setIfInBounds j u).toList.take (n * size), ?_, .inr ⟨g, c, cur.setIfInBounds j u, rfl, hb, hk, hc1, hc2, by simpa using hc3, rfl⟩⟩
    rw [List.length_take]
    have : n * size ≤ c * size := Nat.mul_le_mul_right _ hc1
    simp; omega
theorem own_store3 {w : World} {base : Nat} {e : TypeId} {size n g c : Nat} {xs : List Value} (h : w.ownsRow base e size (.slice (some ⟨g, 0, none⟩) n c) n xs) (i j k : Nat) (u v x : Value) :
    ∃ ys, (((w.setCell ⟨g, i, none⟩ u).setCell ⟨g, j, none⟩ v).setCell ⟨g, k, none⟩ x).ownsRow base e size (.slice (some ⟨g, 0, none⟩) n c) n ys := by
  obtain ⟨_, h1⟩ := own_store h i u
  obtain ⟨_, h2⟩ := own_store h1 j v
  exact own_store h2 k x

/-- What is still to be read of the first list's rows, from i on. -/
def RowsFrom (w : World) (b1 : Nat) (vs : List Value) (LL : List (List Bin)) (i : Nat) : Prop :=
  ∀ (j : Nat) (u : Value) (l : List Bin), i ≤ j → vs[j]? = some u → LL[j]? = some l → w.ownsRow b1 23 3 u l.length (rowOf l)
theorem RowsFrom.grown {w w' : World} {b1 : Nat} {vs : List Value} {LL : List (List Bin)} {i i' : Nat} (h : RowsFrom w b1 vs LL i) {row : Option Nat} (hg : w.grownBy w' row) (hi : i ≤ i')
    (hne : ∀ (j : Nat) (u : Value), i' ≤ j → vs[j]? = some u → u.ownBlock = none ∨ u.ownBlock ≠ row) : RowsFrom w' b1 vs LL i' := fun j u l hj hu hl =>
  (h j u l (by omega) hu hl).kept hg (hne j u hj hu)

/-- All that the law's first loop knows at its i-th round. -/
structure LawAt (b1 b2 b3 : Nat) (V : Value) (vs : List Value) (vk vm : Value) (LL : List (List Bin)) (w0 : World) (i : Nat) (w : World) : Prop where
  out : w.ownsRow b1 32 1 V LL.length vs
  rows : RowsFrom w b1 vs LL i
  k : OwnLL w b2 vk LL
  m : OwnLL w b3 vm LL
  b : Below w0.heap.size w0 w
  h1 : w0.heap.size ≤ b1
  h2 : b1 ≤ b2
  h3 : b2 ≤ b3
  hb3 : b3 ≤ w.heap.size
  apart : ∀ (i j : Nat) (u u' : Value) (b : Nat), i < j → vs[i]? = some u → vs[j]? = some u' → u.ownBlock = some b → u'.ownBlock ≠ some b
  lt : ∀ (j : Nat) (u : Value) (b : Nat), vs[j]? = some u → u.ownBlock = some b → b < b2
  ge : ∀ (j : Nat) (u : Value) (b : Nat), vs[j]? = some u → u.ownBlock = some b → b1 ≤ b
  outer : ∀ b, V.ownBlock = some b → b < b2
  ne : ∀ (j : Nat) (u : Value), vs[j]? = some u → V.ownBlock = none ∨ V.ownBlock ≠ u.ownBlock

theorem LawAt.grown {b1 b2 b3 : Nat} {V : Value} {vs : List Value} {vk vm : Value} {LL : List (List Bin)} {w0 w w' : World} {i i' : Nat} (h : LawAt b1 b2 b3 V vs vk vm LL w0 i w) {row : Option Nat} (hg : w.grownBy w' row) (hi : i ≤ i')
    (hr : ∀ b, row = some b → ∃ (j : Nat) (u : Value), j < i' ∧ vs[j]? = some u ∧ u.ownBlock = some b) : LawAt b1 b2 b3 V vs vk vm LL w0 i' w' := by
  have hlt : ∀ b, row = some b → b < b2 := fun b hb => by obtain ⟨j, u, _, hu, ho⟩ := hr b hb; exact h.lt j u b hu ho
  refine { h with out := h.out.kept hg ?_, rows := h.rows.grown hg hi ?_, k := h.k.grown hg hlt, m := h.m.grown hg (fun b hb => Nat.lt_of_lt_of_le (hlt b hb) h.h3), b := h.b.grown hg ?_ ?_, hb3 := Nat.le_trans h.hb3 hg.size }
  · cases hrow : row with
    | none => cases hV : V.ownBlock with
      | none => exact .inl rfl
      | some _ => exact .inr (by simp)
    | some b =>
      obtain ⟨j, u, _, hu, ho⟩ := hr b hrow
      have := h.ne j u hu
      rwa [ho] at this
  · intro j u hj hu
    cases hrow : row with
    | none => cases hV : u.ownBlock with
      | none => exact .inl rfl
      | some _ => exact .inr (by simp)
    | some b =>
      obtain ⟨j', u', hj', hu', ho⟩ := hr b hrow
      exact .inr (h.apart j' j u' u b (by omega) hu' hu ho)
  · exact Nat.le_trans h.h1 (Nat.le_trans h.h2 (Nat.le_trans h.h3 h.hb3))
  · intro b hb
    obtain ⟨j, u, _, hu, ho⟩ := hr b hb
    exact Nat.le_trans h.h1 (h.ge j u b hu ho)

end Go.Proofs.Ytljhbjkdifmonaa

/- The law CycleLists where the number is let in by none. -/
namespace Go.Proofs.Ytljhbjkdifmonaa
open Go.RowKit Pq

theorem ne0 (w : World) : (binOp .neq 23 (.agg #[.int .i64 0, .int .i64 0, .int .i64 0]) (.agg #[.int .i64 0, .int .i64 0, .int .i64 0])).run Try.prog w = .ok (.bool false) w := by kernel_rfl

set_option maxRecDepth 100000 in
set_option maxHeartbeats 4000000 in
theorem law3_bad (d : Int) (w : World) (h : 65536 < d ∨ crossB d = false) : Calls Try.prog 3 #[.int .i64 d] w fun e w' => e = .returned (.bool true) ∧ Below w.heap.size w w' := by
  have c11 := Lib.hid (fun W => princ_bad d W h)
  have c12 := Lib.hid (fun W => all_bad d W h)
  have c13 := Lib.hid (fun W => rprinc_bad d W h)
  have c14 := Lib.hid (fun W => rall_bad d W h)
  clear h
  have q0 := fun W => ne0 W
  go_enter Try.func3, Try.ntmps3
  go_wp2_with (first
    | (go_at_call 11; (with_reducible refine (c11.out _).mono ?_); rintro e w1 ⟨rfl, hb1⟩
       have BT := Lib.hid hb1
       have s1 := hb1.size
       clear hb1)
    | (go_at_call 12; (with_reducible refine (c12.out _).mono ?_); rintro e w2 ⟨rfl, hb2⟩
       obtain ⟨hc2, hf2⟩ := bcell hb2
       have s2 := hb2.size
       (try simp only [World.size_alloc] at s2)
       have t2 : w1.heap.size < w2.heap.size := by omega
       replace BT : Hid (Below w.heap.size w w2) := (by first | exact Lib.hid (bstep BT.out hb2 (Nat.le_refl _)) | exact Lib.hid (bstepA BT.out hb2 (Nat.le_refl _)))
       clear hb2)
    | (go_at_call 13; (with_reducible refine (c13.out _).mono ?_); rintro e w4 ⟨rfl, hb4⟩
       obtain ⟨hc4, hf4⟩ := bcell hb4
       have s4 := hb4.size
       have t4 : w1.heap.size < w4.heap.size := by omega
       replace BT : Hid (Below w.heap.size w w4) := (by first | exact Lib.hid (bstep BT.out hb4 (Nat.le_refl _)) | exact Lib.hid (bstepA BT.out hb4 (Nat.le_refl _)))
       clear hb4)
    | (go_at_call 14; (with_reducible refine (c14.out _).mono ?_); rintro e w5 ⟨rfl, hb5⟩
       obtain ⟨hc5, hf5⟩ := bcell hb5
       have s5 := hb5.size
       (try simp only [World.size_alloc] at s5)
       have t5 : w1.heap.size < w5.heap.size := by omega
       have u5 : w4.heap.size < w5.heap.size := by omega
       replace BT : Hid (Below w.heap.size w w5) := (by first | exact Lib.hid (bstep BT.out hb5 (Nat.le_refl _)) | exact Lib.hid (bstepA BT.out hb5 (Nat.le_refl _)))
       clear hb5)
    | (go_at_call 15; (with_reducible refine (works9 _).mono ?_); rintro e w6 ⟨rfl, hb6⟩
       replace BT : Hid (Below w.heap.size w w6) := (by first | exact Lib.hid (bstep BT.out hb6 (Nat.le_refl _)) | exact Lib.hid (bstepA BT.out hb6 (Nat.le_refl _)))
       have s6 := hb6.size
       clear hb6))
  clear hc2 hf2 hc4 hf4 hc5 hf5 q0
  go_loop [80] (fun u => u = .int .i64 0) (fun _ => 0)
  case atStart => rfl
  case round =>
    obtain rfl := hrel
    go_wp2
    go_loop [152] (fun u => u = .int .i64 0) (fun _ => 0)
    case atStart => rfl
    case round =>
      obtain rfl := hrel
      go_wp2
      go_ret
      exact ⟨rfl, BT.out⟩
end Go.Proofs.Ytljhbjkdifmonaa

/- The law CycleLists where the number is let in: what the loops know. -/
namespace Go.Proofs.Ytljhbjkdifmonaa
open Go.RowKit Pq

theorem per_le (d s : Int) (f : Bin) : per d s f ≤ 4096 := by
  unfold per
  split
  · rename_i h; exact (Classical.choose_spec h).2.1
  · omega
theorem outTo_rows (d s : Int) (l : List Bin) : ∀ i, ∀ r ∈ outTo d s l i, r.length ≤ 4096 := by
  intro i
  induction i with
  | zero => intro r hr; simp [outTo] at hr
  | succ i ih =>
    intro r hr
    rw [outTo] at hr
    split at hr
    · exact ih r hr
    · rcases List.mem_append.1 hr with h | h
      · exact ih r h
      · simp at h; subst h; simp [cy, cyc]; exact per_le _ _ _
theorem listR_len {d s : Int} (h : Cross d s) (hs : s ≤ 255) : (listR d s (2 * s + 1).toNat).length ≤ 4000 :=
  red_few h hs _ ((sorted_listR d s _).imp fun {a b} hab he => by subst he; exact Lt.irrefl _ hab) fun f hf => by
    have := (mem_listR (by have := h.spos; omega) h).1 hf
    exact ⟨this.1, this.2.1⟩

theorem LawAt.start {w0 w2 w6 : World} {b1 b3 : Nat} {V vk vm : Value} {LL : List (List Bin)} (hl : OwnLL w2 b1 V LL) (hb26 : Below w2.heap.size w2 w6) (hk : OwnLL w6 w2.heap.size vk LL) (hm : OwnLL w6 b3 vm LL)
    (hB : Below w0.heap.size w0 w6) (h1 : w0.heap.size ≤ b1) (h2 : b1 ≤ w2.heap.size) (h3 : w2.heap.size ≤ b3) (h4 : b3 ≤ w6.heap.size) : ∃ vs, LawAt b1 w2.heap.size b3 V vs vk vm LL w0 0 w6 := by
  obtain ⟨vs, l1, l2, l3⟩ := hl
  have hlen : vs.length = LL.length := by have := l1.1; omega
  have row : ∀ (j : Nat) (u : Value), vs[j]? = some u → ∃ l, LL[j]? = some l := fun j u hu => by
    have := (List.getElem?_eq_some_iff.1 hu).1
    exact ⟨_, List.getElem?_eq_getElem (by omega)⟩
  refine ⟨vs, own_below l1 hb26, fun j u l _ hu hl => own_below (l2 j u l hu hl) hb26, hk, hm, hB, h1, h2, h3, h4, l3, fun j u b hu hb => ?_, fun j u b hu hb => ?_, fun b hb => (l1.lt b hb).2, fun j u hu => ?_⟩
  · obtain ⟨l, hl⟩ := row j u hu
    exact ((l2 j u l hu hl).lt b hb).2
  · obtain ⟨l, hl⟩ := row j u hu
    exact ((l2 j u l hu hl).lt b hb).1
  · obtain ⟨l, hl⟩ := row j u hu
    exact own_ne_type l1 (l2 j u l hu hl) (by decide)

/-- A row's own value lies in its cell. -/
theorem LawAt.cell {b1 b2 b3 : Nat} {g c n : Nat} {vs : List Value} {vk vm : Value} {LL : List (List Bin)} {w0 w : World} {i k : Nat} (hn : LL.length = n) (h : LawAt b1 b2 b3 (.slice (some ⟨g, 0, none⟩) n c) vs vk vm LL w0 i w) {u : Value} (hu : vs[k]? = some u) : w.cell? ⟨g, k, none⟩ = some u := by
  subst hn
  have ho := h.out
  have hl := own_len ho
  have hk := (List.getElem?_eq_some_iff.1 hu).1
  rw [ho.cellAt k (by omega)]; exact hu

/-- The rows of an owned list of lists: where it lies, and each row. -/
theorem OwnLL.at {w : World} {base : Nat} {v : Value} {LL : List (List Bin)} (h : OwnLL w base v LL) {i : Nat} (hi : i < LL.length) : ∃ g c u, v = .slice (some ⟨g, 0, none⟩) LL.length c ∧ g < w.heap.size ∧ w.cell? ⟨g, i, none⟩ = some u ∧ w.ownsRow base 23 3 u LL[i].length (rowOf LL[i]) := by
  obtain ⟨vs, l1, l2, _⟩ := h
  have hlen : vs.length = LL.length := by have := l1.1; omega
  obtain ⟨A, c, rfl⟩ := own_slice l1
  obtain ⟨g, rfl, _, hg⟩ := own_at l1 (by omega)
  have hu : vs[i]? = some vs[i] := List.getElem?_eq_getElem (by omega)
  refine ⟨g, c, vs[i], rfl, hg, ?_, l2 i _ _ hu (List.getElem?_eq_getElem hi)⟩
  rw [l1.cellAt i (by omega)]; exact hu
theorem OwnLL.len {w : World} {base : Nat} {v : Value} {LL : List (List Bin)} (h : OwnLL w base v LL) : ∃ A c, v = .slice A LL.length c := by
  obtain ⟨vs, l1, _⟩ := h; exact own_slice l1

theorem OwnLL.at' {w : World} {base : Nat} {A : Option Addr} {n c : Nat} {LL : List (List Bin)} (hn : LL.length = n) (h : OwnLL w base (.slice A n c) LL) {i : Nat} {l : List Bin} (hl : LL[i]? = some l) : ∃ g u, A = some ⟨g, 0, none⟩ ∧ g < w.heap.size ∧ w.cell? ⟨g, i, none⟩ = some u ∧ w.ownsRow base 23 3 u l.length (rowOf l) := by
  subst hn
  have hi := (List.getElem?_eq_some_iff.1 hl).1
  obtain ⟨vs, l1, l2, _⟩ := h
  have hlen : vs.length = LL.length := by have := l1.1; omega
  obtain ⟨g, rfl, _, hg⟩ := own_at l1 (by omega)
  have hu : vs[i]? = some vs[i] := List.getElem?_eq_getElem (by omega)
  refine ⟨g, vs[i], rfl, hg, ?_, l2 i _ _ hu hl⟩
  rw [l1.cellAt i (by omega)]; exact hu
/-- The cells of an own row are there and may be written. -/
theorem own_cells {w : World} {base g n c : Nat} {xs : List Value} (h : w.ownsRow base 23 3 (.slice (some ⟨g, 0, none⟩) n c) n xs) {j : Nat} (hj : j < n) : (∃ x y z, w.cell? ⟨g, j * 3, none⟩ = some x ∧ w.cell? ⟨g, j * 3 + 1, none⟩ = some y ∧ w.cell? ⟨g, j * 3 + 2, none⟩ = some z) ∧ ∀ i, w.frozen? ⟨g, i, none⟩ = false := by
  have hl := own_len h
  refine ⟨⟨xs[j * 3]'(by omega), xs[j * 3 + 1]'(by omega), xs[j * 3 + 2]'(by omega), ?_, ?_, ?_⟩, ?_⟩
  · rw [h.cellAt (j * 3) (by omega)]; exact List.getElem?_eq_getElem _
  · rw [h.cellAt (j * 3 + 1) (by omega)]; exact List.getElem?_eq_getElem _
  · rw [h.cellAt (j * 3 + 2) (by omega)]; exact List.getElem?_eq_getElem _
  · obtain ⟨_, hr⟩ := h
    rcases hr with ⟨h1, _⟩ | ⟨g', cap, cur, h1, hb, hg, _⟩
    · simp at h1
    · simp only [Value.slice.injEq, Option.some.injEq, Addr.mk.injEq] at h1
      obtain ⟨⟨rfl, _, _⟩, _, rfl⟩ := h1
      exact fun i => Blk.frozen (cs := cur) hg i

theorem same_at {w : World} {b b' : Nat} {u v : Value} {l : List Bin} (hu : w.ownsRow b 23 3 u l.length (rowOf l)) (hv : w.ownsRow b' 23 3 v l.length (rowOf l)) (hl : l.length ≤ 4096) (n : Nat) :
    Calls Try.prog 16 #[u, v] (w.drewN n) fun e w'' => e = .returned (.bool true) ∧ ∃ m, w'' = w.drewN m :=
  Calls.quiet_of (same_any l (by omega) (w.drewN n) b b' u v (own_below hu (below_drewN (Below.refl _ _) n)) (own_below hv (below_drewN (Below.refl _ _) n)))

end Go.Proofs.Ytljhbjkdifmonaa

/- The law CycleLists where the number is let in. -/
namespace Go.Proofs.Ytljhbjkdifmonaa
open Go.RowKit Pq

set_option maxRecDepth 100000 in
set_option maxHeartbeats 8000000 in
theorem law3_ok (d s : Int) (w : World) (hcr : Cross d s) (hd : d ≤ 65536) (hx : crossB d = true) (hd4 : d % 4 ≤ 1) (hs : s ≤ 255) : Calls Try.prog 3 #[.int .i64 d] w fun e w' => e = .returned (.bool true) ∧ Below w.heap.size w w' := by
  have c11 := Lib.hid (fun W => princ_ok d W hd hx)
  have c12 := Lib.hid (fun W => all_ok d s W hcr hd hx hd4 hs)
  have c13 := Lib.hid (fun W => rprinc_ok d W hd hx)
  have c14 := Lib.hid (fun W => rall_ok d s _ W hcr hd hx rfl hs (Nat.le_trans (listR_len hcr hs) (by decide)))
  have hLn : (outTo d s (listR d s (2 * s + 1).toNat) (listR d s (2 * s + 1).toNat).length).length ≤ 4000 := Nat.le_trans (outTo_len _ _ _ _) (listR_len hcr hs)
  have HR := Lib.hid (outTo_rows d s (listR d s (2 * s + 1).toNat) (listR d s (2 * s + 1).toNat).length)
  generalize outTo d s (listR d s (2 * s + 1).toNat) (listR d s (2 * s + 1).toNat).length = LL at *
  clear hcr hd hx hd4 hs
  generalize princ d = p at *
  have q0 := fun W => neq23 W p p
  rw [decide_eq_true rfl] at q0
  simp only [Bool.not_true] at q0
  obtain ⟨pa, pb, pc⟩ := p
  simp only at q0 c11 c13
  obtain ⟨i0, hi, hz0, hz1, hz2⟩ := info_parts info23
  go_enter Try.func3, Try.ntmps3
  go_wp2_with fail
  go_at_call 11; (with_reducible refine (c11.out _).mono ?_); rintro e w1 ⟨rfl, hb1⟩
  have s1 := hb1.size
  have BT := Lib.hid hb1
  clear hb1
  go_wp2_with fail
  go_at_call 12; (with_reducible refine (c12.out _).mono ?_); rintro e w2 ⟨v1, rfl, hO1, hb2⟩
  obtain ⟨hc2, hf2⟩ := bcell hb2
  have s2 := hb2.size
  simp only [World.size_alloc] at s2 hO1
  have t2 : w1.heap.size < w2.heap.size := by omega
  replace BT : Hid (Below w.heap.size w w2) := Lib.hid (bstepA BT.out hb2 (Nat.le_refl _))
  have O1 := Lib.hid hO1
  clear hb2 hO1
  go_wp2_with fail
  go_at_call 12; (with_reducible refine (c12.out _).mono ?_); rintro e w3 ⟨v2, rfl, hO2, hb3⟩
  obtain ⟨hc3, hf3⟩ := bcell hb3
  have s3 := hb3.size
  have t3 : w1.heap.size < w3.heap.size := by omega
  replace BT : Hid (Below w.heap.size w w3) := Lib.hid (bstep BT.out hb3 (Nat.le_refl _))
  have O2 := Lib.hid hO2
  have B2 : Hid (Below w2.heap.size w2 w3) := Lib.hid hb3
  clear hb3 hO2
  go_wp2_with fail
  go_at_call 13; (with_reducible refine (c13.out _).mono ?_); rintro e w4 ⟨rfl, hb4⟩
  obtain ⟨hc4, hf4⟩ := bcell hb4
  have s4 := hb4.size
  have t4 : w1.heap.size < w4.heap.size := by omega
  replace BT : Hid (Below w.heap.size w w4) := Lib.hid (bstep BT.out hb4 (Nat.le_refl _))
  replace B2 : Hid (Below w2.heap.size w2 w4) := Lib.hid (bstep B2.out hb4 (Nat.le_refl _))
  have B3 : Hid (Below w3.heap.size w3 w4) := Lib.hid hb4
  clear hb4
  go_wp2_with fail
  go_at_call 14; (with_reducible refine (c14.out _).mono ?_); rintro e w5 ⟨v3, rfl, hO3, hb5⟩
  obtain ⟨hc5, hf5⟩ := bcell hb5
  have s5 := hb5.size
  simp only [World.size_alloc] at s5 hO3
  have t5 : w1.heap.size < w5.heap.size := by omega
  have u5 : w4.heap.size < w5.heap.size := by omega
  replace BT : Hid (Below w.heap.size w w5) := Lib.hid (bstepA BT.out hb5 (Nat.le_refl _))
  replace B2 : Hid (Below w2.heap.size w2 w5) := Lib.hid (bstepA B2.out hb5 (Nat.le_refl _))
  replace B3 : Hid (Below w3.heap.size w3 w5) := Lib.hid (bstepA B3.out hb5 (Nat.le_refl _))
  have O3 := Lib.hid hO3
  clear hb5 hO3
  obtain ⟨A1, k1, rfl⟩ := O1.out.len
  obtain ⟨A2, k2, rfl⟩ := O2.out.len
  obtain ⟨A3, k3, rfl⟩ := O3.out.len
  have hn0 : ((LL.length : Int) != (LL.length : Int)) = false := by simp
  generalize hn : LL.length = n at *
  have HN := Lib.hid hn
  clear hn
  go_wp2_with (go_at_call 15; (with_reducible refine (works9 _).mono ?_); rintro e w6 ⟨rfl, hb6⟩)
  have s6 := hb6.size
  obtain ⟨vs, hLA⟩ := LawAt.start (w0 := w) (b3 := w4.heap.size + 1) O1.out (bstep B2.out hb6 (Nat.le_refl _)) (O2.out.below (bstep B3.out hb6 (Nat.le_refl _))) (O3.out.below hb6) (bstep BT.out hb6 (Nat.le_refl _)) (by omega) (by omega) (by omega) (by omega)
  have HLA := Lib.hid hLA
  clear hLA O1 O2 O3 B2 B3 BT hb6 hc2 hf2 hc3 hf3 hc4 hf4 hc5 hf5 q0 c11 c12 c13 c14 hn0
  generalize w1.heap.size + 1 = b1 at *
  generalize w4.heap.size + 1 = b3 at *
  go_loopw [80] (fun u wr => ∃ i : Nat, u = .int .i64 i ∧ i ≤ n ∧ Hid (LawAt b1 w2.heap.size b3 (.slice A1 n k1) vs (.slice A2 n k2) (.slice A3 n k3) LL w i wr)) (fun u _ => (n - intOf u).toNat)
  case atStart => exact ⟨0, rfl, by omega, HLA.out⟩
  case round =>
    clear HLA
    obtain ⟨i, rfl, hin, hH⟩ := hrel
    rename World => wo
    by_cases hlt : i < n
    · obtain ⟨Li, hLi⟩ : ∃ l, LL[i]? = some l := ⟨_, List.getElem?_eq_getElem (by rw [HN.out]; exact hlt)⟩
      have hvl : vs.length = n := by have := own_len hH.out.out; rw [HN.out] at this; omega
      obtain ⟨ui, hui⟩ : ∃ u, vs[i]? = some u := ⟨_, List.getElem?_eq_getElem (by omega)⟩
      have HV := Lib.hid hvl
      have hLe : Li.length ≤ 4096 := HR.out Li (List.mem_of_getElem? hLi)
      have hrow := hH.out.rows i ui Li (Nat.le_refl _) hui hLi
      obtain ⟨Ai, ci, rfl⟩ := own_slice hrow
      obtain ⟨g2, uk, hA2, hg2, hk2, hr2⟩ := OwnLL.at' HN.out hH.out.k hLi
      obtain ⟨g3, um, hA3, hg3, hk3, hr3⟩ := OwnLL.at' HN.out hH.out.m hLi
      obtain ⟨g1, hA1, _, hg1⟩ := own_at (HN.out ▸ hH.out.out) (by omega)
      subst hA1 hA2 hA3
      have hk1 := LawAt.cell HN.out hH.out hui
      have hs1 := same_at hrow hr3 hLe
      have hs2 := same_at hr2 hr3 hLe
      obtain ⟨Ak, ck, rfl⟩ := own_slice hr2
      obtain ⟨Am, cm, rfl⟩ := own_slice hr3
      have HX := Lib.hid (And.intro hui (And.intro hLi hrow))
      clear hui hLi hrow hr2 hr3 hvl
      generalize hni : Li.length = ni at *
      have HNI := Lib.hid hni
      clear hni
      go_wp2
      go_quiet ((first | (go_at_call 16; with_reducible exact hs1 _) | (go_at_call 16; with_reducible exact hs2 _)))
      go_wp2
      have HA : Hid (LawAt b1 w2.heap.size b3 (.slice (some ⟨g1, 0, none⟩) n k1) vs (.slice (some ⟨g2, 0, none⟩) n k2) (.slice (some ⟨g3, 0, none⟩) n k3) LL w i (wo.drewN nq)) := hH.out.grown (grow_drewN _ _ none) (Nat.le_refl _) (fun b hb => by cases hb)
      have HO : Hid (∃ ys, (wo.drewN nq).ownsRow b1 23 3 (.slice Ai ni ci) ni ys) := by
        obtain ⟨_, _, hrow⟩ := HX.out
        refine ⟨rowOf Li, ?_⟩
        have := own_below hrow (below_drewN (Below.refl wo.heap.size wo) nq)
        exact this
      clear hH hs1 hs2 hk1 hk2 hk3 hg1 hg2 hg3
      generalize wo.drewN nq = wA at *
      go_loopw [110] (fun u wr => ∃ j : Nat, u = .int .i64 j ∧ j ≤ ni ∧ Hid (∃ ys, wr.ownsRow b1 23 3 (.slice Ai ni ci) ni ys) ∧ Hid (wA.grownBy wr (Value.slice Ai ni ci).ownBlock)) (fun u _ => (ni - intOf u).toNat)
      case atStart => exact ⟨0, rfl, by omega, HO.out, World.grownBy.refl _ _⟩
      case round =>
        clear HO
        obtain ⟨j, rfl, hjn, hO, hG⟩ := hrel
        rename World => wi
        have HB : Hid (LawAt b1 w2.heap.size b3 (.slice (some ⟨g1, 0, none⟩) n k1) vs (.slice (some ⟨g2, 0, none⟩) n k2) (.slice (some ⟨g3, 0, none⟩) n k3) LL w (i + 1) wi) := HA.out.grown hG.out (by omega) (fun b hb => ⟨i, _, by omega, HX.out.1, hb⟩)
        have hk1 := LawAt.cell HN.out HB.out HX.out.1
        have hg1 := (HB.out.out.lt g1 rfl).2
        by_cases hjl : j < ni
        · obtain ⟨ys, hO2⟩ := hO.out
          obtain ⟨gi, hAi, hgi, hgi2⟩ := own_at hO2 (by omega)
          subst hAi
          obtain ⟨⟨x0, x1, x2, y0, y1, y2⟩, hfz⟩ := own_cells hO2 hjl
          have hne : g1 ≠ gi := by
            have := HB.out.ne i _ HX.out.1
            simpa [Value.ownBlock] using this
          have HO2 := Lib.hid hO2
          clear hO2 hO
          go_wp2
          go_roundw
          case rel =>
            exact ⟨j + 1, by simp, by omega, own_store3 HO2.out _ _ _ _ _ _, grow_same (grow_same (grow_same hG.out (grow_set _ _ _ _)) (grow_set _ _ _ _)) (grow_set _ _ _ _)⟩
          case measure => simp [intOf]; omega
        · obtain ⟨ys, hO2⟩ := hO.out
          have HO2 := Lib.hid hO2
          clear hO2 hO
          have hbw : b1 ≤ wi.heap.size := Nat.le_trans HB.out.h2 (Nat.le_trans HB.out.h3 HB.out.hb3)
          have hkA : (wi.alloc (Obj.cells #[.int .i64 0, .int .i64 0, .int .i64 0] 23)).cell? ⟨g1, i, none⟩ = some (.slice Ai ni ci) := (Below.cell ((Below.refl wi.heap.size wi).alloc (Nat.le_refl _) _) (p := ⟨g1, i, none⟩) hg1).trans hk1
          go_wp2_with (at_builtin
                       refine wpList_append_own _ rfl _ _ 32 rfl b1 23 i0 (.agg #[.int .i64 0, .int .i64 0, .int .i64 0]) 3 24 Try.underlying32 hi hz0 hz1 hz2 rfl (by decide) (.slice Ai ni ci) _ _ rfl (HO2.out.alloc _) ⟨wi.heap.size, 0, none⟩ 1 1 (binCells ⟨0, 0, 0⟩) rfl rfl (bin_at wi ⟨0, 0, 0⟩) (binCells_one ⟨0, 0, 0⟩) (by unfold maxLen; omega) (by omega) (by simp; omega) ?_
                       intro v7 w7 hown7 hgrow7 _
                       obtain ⟨A7, c7, rfl⟩ := own_slice hown7
                       have HG7 := Lib.hid hgrow7
                       clear hown7 hgrow7)
          have HC : Hid (LawAt b1 w2.heap.size b3 (.slice (some ⟨g1, 0, none⟩) n k1) vs (.slice (some ⟨g2, 0, none⟩) n k2) (.slice (some ⟨g3, 0, none⟩) n k3) LL w (i + 1) w7) := (HB.out.grown (World.grownBy_alloc wi (Obj.cells #[.int .i64 0, .int .i64 0, .int .i64 0] 23) none) (Nat.le_refl _) (fun b hb => by cases hb)).grown HG7.out (Nat.le_refl _) (fun b hb => ⟨i, _, by omega, HX.out.1, hb⟩)
          clear HB HG7 HO2 hk1 hkA
          obtain ⟨g2', uk', hA2, hg2, hk2, hr2⟩ := OwnLL.at' HN.out HC.out.k HX.out.2.1
          obtain ⟨g3', um', hA3, hg3, hk3, hr3⟩ := OwnLL.at' HN.out HC.out.m HX.out.2.1
          obtain rfl : g2 = g2' := by simpa using hA2
          obtain rfl : g3 = g3' := by simpa using hA3
          have hs2 := same_at hr2 hr3 (by rw [HNI.out]; exact hLe)
          obtain ⟨Ak', ck', rfl⟩ := own_slice hr2
          obtain ⟨Am', cm', rfl⟩ := own_slice hr3
          rw [HNI.out] at hk2 hk3 hs2
          clear hr2 hr3 hA2 hA3
          go_quiet ((go_at_call 16; with_reducible exact hs2 _))
          go_wp2
          go_roundw
          case rel => exact ⟨i + 1, by simp, by omega, HC.out.grown (grow_drewN _ _ none) (Nat.le_refl _) (fun b hb => by cases hb)⟩
          case measure => simp [intOf]; omega
    · have hie : i = n := by omega
      go_wp2
      go_loopw [152] (fun u wr => ∃ t : Nat, u = .int .i64 t ∧ t ≤ n ∧ Hid (LawAt b1 w2.heap.size b3 (.slice A1 n k1) vs (.slice A2 n k2) (.slice A3 n k3) LL w i wr)) (fun u _ => (n - intOf u).toNat)
      case atStart => exact ⟨0, rfl, by omega, hH.out⟩
      case round =>
        clear hH
        obtain ⟨t, rfl, htn, hH⟩ := hrel
        rename World => wi
        by_cases htl : t < n
        · obtain ⟨Li, hLi⟩ : ∃ l, LL[t]? = some l := ⟨_, List.getElem?_eq_getElem (by rw [HN.out]; exact htl)⟩
          have hLe : Li.length ≤ 4096 := HR.out Li (List.mem_of_getElem? hLi)
          obtain ⟨g2, uk, hA2, hg2, hk2, hr2⟩ := OwnLL.at' HN.out hH.out.k hLi
          obtain ⟨g3, um, hA3, hg3, hk3, hr3⟩ := OwnLL.at' HN.out hH.out.m hLi
          subst hA2 hA3
          have hs2 := same_at hr2 hr3 hLe
          obtain ⟨Ak, ck, rfl⟩ := own_slice hr2
          obtain ⟨Am, cm, rfl⟩ := own_slice hr3
          clear hLi hr2 hr3
          generalize Li.length = ni at *
          go_wp2
          go_quiet ((go_at_call 16; with_reducible exact hs2 _))
          go_wp2
          go_roundw
          case rel => exact ⟨t + 1, by simp, by omega, hH.out.grown (grow_drewN _ _ none) (Nat.le_refl _) (fun b hb => by cases hb)⟩
          case measure => simp [intOf]; omega
        · go_wp2
          go_ret
          exact ⟨rfl, hH.out.b⟩

end Go.Proofs.Ytljhbjkdifmonaa

/- The law CycleLists: every number. -/
namespace Go.Proofs.Ytljhbjkdifmonaa
open Go.RowKit Pq

theorem root_small {d : Int} (h : crossB d = true) (hd : d ≤ 65536) : rt d ≤ 255 := by
  obtain ⟨hc, _, _⟩ := crossB_true h
  have h1 := hc.lt
  apply Decidable.byContradiction
  intro h2
  have h3 : (256 : Int) * 256 ≤ rt d * rt d := mul_self_le (by omega) (by omega)
  omega
theorem law3 (d : Int) (w : World) (_ : (Lit.int .i64 d).wf = true) : Calls Try.prog 3 #[.int .i64 d] w fun e w' => e = .returned (.bool true) ∧ Below w.heap.size w w' := by
  by_cases h : 65536 < d ∨ crossB d = false
  · exact law3_bad d w h
  · have h1 : d ≤ 65536 := by omega
    have h2 : crossB d = true := by
      cases hc : crossB d
      · exact (h (.inr hc)).elim
      · rfl
    obtain ⟨hc, _, h4⟩ := crossB_true h2
    exact law3_ok d (rt d) w hc h1 h2 h4 (root_small h2 h1)

end Go.Proofs.Ytljhbjkdifmonaa

/- The law's own disc and gcd; cycle.Reduced; cycle.Reduce of every form. -/
namespace Go.Proofs.Ytljhbjkdifmonaa
open Go.RowKit Pq

theorem ldisc_any (a b c : Int) (w : World) (h1 : 0 ≤ b * b) (h2 : b * b ≤ 1152921504606846976) (h0 : -1073741824 ≤ a) (h00 : a ≤ 1073741824) (h3 : -4611686018427387904 ≤ 4 * a * c) (h4 : 4 * a * c ≤ 4611686018427387904) :
    Calls Try.prog 20 #[.agg #[.int .i64 a, .int .i64 b, .int .i64 c]] w fun e w' => e = .returned (.int .i64 (b * b - 4 * a * c)) ∧ Below w.heap.size w w' := by
  go_enter Try.func20, Try.ntmps20
  go_wp2
  go_ret
  exact ⟨rfl, (Below.refl _ _).alloc (Nat.le_refl _) _⟩
theorem ldiscf (f : Bin) (w : World) (hw : Within 1073741824 f) : Calls Try.prog 20 #[.agg #[.int .i64 f.a, .int .i64 f.b, .int .i64 f.c]] w fun e w' => e = .returned (.int .i64 f.disc) ∧ Below w.heap.size w w' :=
  ldisc_any f.a f.b f.c w hw.bb.1 hw.bb.2 hw.a.1 hw.a.2 hw.ac.1 hw.ac.2

set_option maxHeartbeats 1000000 in
theorem lgcd_any (a b c : Int) (w : World) (ha : -1073741824 ≤ a ∧ a ≤ 1073741824) (hb : -1073741824 ≤ b ∧ b ≤ 1073741824) (hc : -1073741824 ≤ c ∧ c ≤ 1073741824) :
    Calls Try.prog 21 #[.agg #[.int .i64 a, .int .i64 b, .int .i64 c]] w fun e w' => e = .returned (.int .i64 (gcdTo a b c 3)) ∧ Below w.heap.size w w' := by
  go_enter Try.func21, Try.ntmps21
  go_wp2_with fail
  go_loopw [3, 13] (fun g v wr => ∃ k : Nat, k ≤ 3 ∧ v = .int .i64 k ∧ g = .int .i64 (gcdTo a b c k) ∧ Below w.heap.size w wr) (fun _ v _ => 3 - (intOf v).toNat)
  case atStart => exact ⟨0, by omega, rfl, rfl, (Below.refl _ _).alloc (Nat.le_refl _) _⟩
  case round =>
    obtain ⟨k, hk, rfl, rfl, hbl⟩ := hrel
    by_cases hlt : k < 3
    · have ix := fun W => ixk a b c k hlt W
      have px := pick3_in k ha hb hc
      have gl := gcdTo_le ha hb hc k
      obtain ⟨px1, px2⟩ := px
      have HG := Lib.hid (show gcdTo a b c (k + 1) = Nat.gcd (gcdTo a b c k) (pick3 a b c k).natAbs from rfl)
      generalize hx : pick3 a b c k = x at *
      have HX := Lib.hid hx
      clear hx
      generalize gcdTo a b c k = G at *
      go_wp2
      all_goals
        go_loopw [3, 5] (fun g v wi => ∃ u x' : Nat, g = .int .i64 u ∧ v = .int .i64 x' ∧ (u : Int) ≤ 1073741824 ∧ (x' : Int) ≤ 1073741824 ∧ Hid (Nat.gcd u x' = Nat.gcd G x.natAbs) ∧ Below w.heap.size w wi) (fun _ v _ => (intOf v).toNat)
        case atStart => exact ⟨G, x.natAbs, rfl, by congr 1; omega, gl, by omega, rfl, hbl⟩
        case round =>
          obtain ⟨u, x', rfl, rfl, hu, hx, hg, hbi⟩ := hrel
          by_cases hp : 0 < x'
          · have hxb : ((x' : Int) == 0) = false := by simp; omega
            have hlt2 : (u : Int) % (x' : Int) < x' := Int.emod_lt_of_pos _ (by omega)
            have hge2 : 0 ≤ (u : Int) % (x' : Int) := Int.emod_nonneg _ (by omega)
            go_wp2
            go_region
            go_wp2
            go_roundw
            case rel => exact ⟨x', u % x', rfl, by simp, hx, by simp; omega, by show Nat.gcd x' (u % x') = _; rw [← hg.out, Nat.gcd_comm u x', Nat.gcd_rec x' u, Nat.gcd_comm], hbi.drew⟩
            case measure => simp [intOf]; omega
          · obtain rfl : x' = 0 := by omega
            have hgu : u = Nat.gcd G x.natAbs := by rw [← hg.out, Nat.gcd_zero_right]
            have HGU := Lib.hid hgu
            clear hgu
            go_wp2
            go_roundw
            case rel => exact ⟨k + 1, by omega, by go_num, by rw [HG.out, HGU.out], hbi⟩
            case measure => simp [intOf]; omega
    · obtain rfl : k = 3 := by omega
      go_wp2
      go_ret
      exact ⟨rfl, hbl⟩

set_option maxRecDepth 100000 in
set_option maxHeartbeats 4000000 in
theorem reduced_ok (f : Bin) (s : Int) (w : World) (h : chk f = 0) (hs : s = rt f.disc) :
    Calls Try.prog 22 #[.agg #[.int .i64 f.a, .int .i64 f.b, .int .i64 f.c]] w fun e w' => e = .returned (.bool (decide (Red s f))) ∧ Below w.heap.size w w' := by
  have hk := fun W => check_any f W
  rw [h] at hk
  obtain ⟨hw, hx⟩ := chk_zero h
  obtain ⟨hcr, hlt, _⟩ := crossB_true hx
  rw [← hs] at hcr
  have hdisc := fun W => discf_any f W hw
  have hroot := fun W => root_any f.disc s W (by have := hcr.pos; omega) (by omega) hcr.root
  have hred := fun W => red_any f s W hw
  clear hcr hlt hx h hs hw
  generalize decide (Red s f) = r at *
  generalize f.disc = d at *
  obtain ⟨a, b, c⟩ := f
  simp only at hk hdisc hred ⊢
  go_enter Try.func22, Try.ntmps22
  go_wp2
  have k1 := Blk.new w 23 #[.int .i64 a, .int .i64 b, .int .i64 c]
  have HB : Hid (Below w.heap.size w (w.alloc (Obj.cells #[.int .i64 a, .int .i64 b, .int .i64 c] 23))) := ((Below.refl w.heap.size w).alloc (Nat.le_refl _) _)
  generalize w.alloc (Obj.cells #[.int .i64 a, .int .i64 b, .int .i64 c] 23) = W at *
  obtain ⟨c0, c1, c2⟩ := k1.c3
  have l1 := k1.lt
  clear k1
  go_region_held3 (fun wc => wc.cell? ⟨w.heap.size, 0, none⟩ = some (.int .i64 a) ∧ wc.cell? ⟨w.heap.size, 1, none⟩ = some (.int .i64 b) ∧ wc.cell? ⟨w.heap.size, 2, none⟩ = some (.int .i64 c) ∧ Since W wc)
      (first
        | exact ⟨c0, c1, c2, Since.start W⟩
        | (go_split_ands
           exact (fun z => ⟨z.cell c0 l1, z.cell c1 l1, z.cell c2 l1, z⟩) (Since.step hb5 (by assumption)))
        | (go_split_ands
           exact ⟨by assumption, by assumption, by assumption, by assumption⟩))
      (first
        | (go_at_call 19; (with_reducible refine (hk _).mono ?_); rintro e w5 ⟨rfl, hb5⟩)
        | (go_at_call 57; (with_reducible refine (hdisc _).mono ?_); rintro e w5 ⟨rfl, hb5⟩)
        | (go_at_call 45; (with_reducible refine (hroot _).mono ?_); rintro e w5 ⟨rfl, rfl⟩)
        | (go_at_call 46; (with_reducible refine (hred _).mono ?_); rintro e w5 ⟨rfl, hb5⟩))
  all_goals
    go_split_ands
    rename Since W _ => hS
    go_wp2
    go_ret
    exact ⟨rfl, HB.out.trans (hS.out.mono HB.out.size)⟩

theorem reduce_any (f : Bin) : ∃ (x : Bin) (T : Trn), (∀ W, Calls Try.prog 17 #[.agg #[.int .i64 f.a, .int .i64 f.b, .int .i64 f.c]] W fun e w' => e = .returned (.tuple #[.agg #[.int .i64 x.a, .int .i64 x.b, .int .i64 x.c], .agg #[.int .i64 T.p, .int .i64 T.q, .int .i64 T.r, .int .i64 T.s], .int .i64 (chk f)]) ∧ Below W.heap.size W w') ∧
    (chk f = 0 → ∃ n, x = It f.disc (rt f.disc) n f ∧ Red (rt f.disc) x ∧ x.disc = f.disc) := by
  by_cases h : chk f = 0
  · obtain ⟨hw, hx⟩ := chk_zero h
    obtain ⟨hcr, hlt, _⟩ := crossB_true hx
    obtain ⟨n, h1, h2⟩ := exists_first hcr (f := f) rfl
    refine ⟨It f.disc (rt f.disc) n f, TIt f.disc (rt f.disc) f n, fun W => ?_, fun _ => ⟨n, rfl, h1, It_disc hcr n rfl⟩⟩
    rw [h]
    exact reduce_ok f n W (rt f.disc) h rfl h1 h2
  · exact ⟨⟨0, 0, 0⟩, ⟨0, 0, 0, 0⟩, fun W => reduce_bad f W h, fun h0 => (h h0).elim⟩

end Go.Proofs.Ytljhbjkdifmonaa

/- What the law CyclePlaces wants: the principal form, and the places of all forms. -/
namespace Go.Proofs.Ytljhbjkdifmonaa
open Go.RowKit Pq

theorem princ_facts {d : Int} (h : crossB d = true) : (princ d).disc = d ∧ Red (rt d) (princ d) ∧ prim (princ d) ∧ (princ d).a = 1 := by
  obtain ⟨hc, _, h4⟩ := crossB_true h
  have hs := hc.root
  have hs0 := hc.spos
  have hpos := hc.pos
  have hlt := hc.lt
  have hs2 : 2 ≤ rt d := by
    apply Decidable.byContradiction
    intro hn
    have h1 : rt d = 1 := by omega
    have h2 := hs.lt
    rw [h1] at h2 hlt
    omega
  generalize hS : rt d = s at *
  obtain ⟨b, hb⟩ : ∃ b, b = s - (s + d) % 2 := ⟨_, rfl⟩
  have hbd : (b - d) % 2 = 0 := by omega
  have hp : princ d = ⟨1, b, (b * b - d).tdiv 4⟩ := by unfold princ; rw [hS, hb]
  have hb4 : (b * b - d) % 4 = 0 := by
    have e : b % 4 = 0 ∨ b % 4 = 1 ∨ b % 4 = 2 ∨ b % 4 = 3 := by omega
    have hsq : (b * b) % 4 = ((b % 4) * (b % 4)) % 4 := Int.mul_emod _ _ _
    rcases e with e | e | e | e <;> rw [e] at hsq <;> simp at hsq <;> omega
  obtain ⟨q, hq⟩ : ∃ q, b * b - d = 4 * q := ⟨(b * b - d) / 4, by omega⟩
  rw [hp, hq, Int.mul_tdiv_cancel_left _ (by decide)]
  refine ⟨?_, ?_, ?_, rfl⟩
  · unfold Bin.disc; show b * b - 4 * 1 * q = d; omega
  · unfold Red; simp only [sz]; refine ⟨by omega, by omega, by simp; omega, by simp; omega⟩
  · unfold prim; simp
theorem princ_chk {d : Int} (h : crossB d = true) (hd : d ≤ 65536) : chk (princ d) = 0 := by
  obtain ⟨h1, h2, _, _⟩ := princ_facts h
  obtain ⟨hc, _, _⟩ := crossB_true h
  refine chk_of (within_red hc (by have := root_small h hd; omega) h1 h2) (by rw [h1]; exact h)

/-- The map of places when the forms of S have been placed. -/
def plV (LL : List (List Bin)) (S : List Bin) : Bin → Option Value := fun f => if f ∈ S then some (.int .i64 (plc LL f)) else none
theorem plV_snoc (LL : List (List Bin)) (S : List Bin) (f g : Bin) (n : Int) (h : (plc LL f : Int) = n) : (if g = f then some (.int .i64 n) else plV LL S g) = plV LL (S ++ [f]) g := by
  unfold plV
  by_cases h1 : g = f
  · subst h1; simp [h]
  · simp [h1]
theorem plV_all (LL : List (List Bin)) (f : Bin) : (plV LL LL.flatten f).getD (.int .i64 0) = .int .i64 (plc LL f) := by
  unfold plV
  by_cases h : f ∈ LL.flatten
  · rw [if_pos h]; rfl
  · rw [if_neg h, plc_none h]; rfl
theorem run_map43 (W : World) : (Instr.makeMap 43 none).run Try.prog W = .ok (.map (some W.heap.size)) (W.alloc (.map #[] 0)) := by kernel_rfl
theorem zero3 (W : World) : (zeroValue 3).run Try.prog W = .ok (.int .i64 0) W := by kernel_rfl
theorem flat_take {LL : List (List Bin)} {i : Nat} {l : List Bin} (h : LL[i]? = some l) : (LL.take (i + 1)).flatten = (LL.take i).flatten ++ l := by
  obtain ⟨hi, rfl⟩ := List.getElem?_eq_some_iff.1 h
  rw [List.take_succ_eq_append_getElem hi, List.flatten_append]; simp
theorem fresh_at {LL : List (List Bin)} (hn : LL.flatten.Nodup) {i t : Nat} {l : List Bin} (h : LL[i]? = some l) (ht : t < l.length) : nth l t ∉ (LL.take i).flatten ++ l.take t := by
  obtain ⟨hi, rfl⟩ := List.getElem?_eq_some_iff.1 h
  have e : LL.flatten = ((LL.take i).flatten ++ LL[i].take t) ++ (nth LL[i] t :: (LL[i].drop (t + 1) ++ (LL.drop (i + 1)).flatten)) := by
    conv => lhs; rw [← List.take_append_drop i LL, List.flatten_append, List.drop_eq_getElem_cons hi, List.flatten_cons]
    conv => lhs; rw [← List.take_append_drop t LL[i], drop_nth ht]
    simp
  rw [e] at hn
  intro hm
  exact (List.nodup_append.1 hn).2.2 _ hm _ (by simp) rfl

theorem mem_flat {d s : Int} (h : Cross d s) {LL : List (List Bin)} (hA : AllAt d s (listR d s (2 * s + 1).toNat) (listR d s (2 * s + 1).toNat).length LL) {f : Bin} (h1 : f.disc = d) (h2 : Red s f) (h3 : prim f) : f ∈ LL.flatten := by
  have hm : f ∈ listR d s (2 * s + 1).toNat := (mem_listR (by have := h.spos; omega) h).2 ⟨h1, h2, h3⟩
  obtain ⟨j, hj, he⟩ := List.mem_iff_getElem.1 hm
  have := hA.all j hj
  rwa [nth_eq hj, he] at this
theorem all_at {d s : Int} (h : Cross d s) (hs : s ≤ 255) : AllAt d s (listR d s (2 * s + 1).toNat) (listR d s (2 * s + 1).toNat).length (outTo d s (listR d s (2 * s + 1).toNat) (listR d s (2 * s + 1).toNat).length) :=
  allAt h hs _ (fun f hf => by
    have := (mem_listR (by have := h.spos; omega) h).1 hf
    exact ⟨this.1, this.2.1⟩) _ (Nat.le_refl _)

end Go.Proofs.Ytljhbjkdifmonaa

/- The law CyclePlaces, walked. -/
namespace Go.Proofs.Ytljhbjkdifmonaa
open Go.RowKit Pq

theorem cy_length (d s : Int) (f : Bin) : (cy d s f).length = per d s f := by simp [cy, cyc]

set_option maxRecDepth 100000 in
set_option maxHeartbeats 16000000 in
theorem law5 (f g : Bin) (w : World) : Calls Try.prog 5 #[.agg #[.int .i64 f.a, .int .i64 f.b, .int .i64 f.c], .agg #[.int .i64 g.a, .int .i64 g.b, .int .i64 g.c]] w fun e w' => e = .returned (.bool true) ∧ Below w.heap.size w w' := by
  obtain ⟨x, T, hrf, hxp⟩ := reduce_any f
  obtain ⟨y, U, hrg, hyp⟩ := reduce_any g
  have c20 := fun (hw : Within 1073741824 f) W => ldiscf f W hw
  have c21 := fun (hw : Within 1073741824 f) W => lgcd_any f.a f.b f.c W hw.a hw.b hw.c
  have c22 := fun (hw : Within 1073741824 g) W => lgcd_any g.a g.b g.c W hw.a hw.b hw.c
  have c18 := fun l N dx dy W => proper_calls f g x y T U l N dx dy W
  have pf : gcdTo f.a f.b f.c 3 = 1 ↔ prim f := prim_gcd f
  have pg : gcdTo g.a g.b g.c 3 = 1 ↔ prim g := prim_gcd g
  obtain ⟨fa, fb, fc⟩ := f
  obtain ⟨ga, gb, gc⟩ := g
  obtain ⟨Tp, Tq, Tr, Ts⟩ := T
  obtain ⟨Up, Uq, Ur, Us⟩ := U
  simp only at hrf hrg c18 c20 c21 c22 pf pg ⊢
  generalize gcdTo fa fb fc 3 = gf at *
  generalize gcdTo ga gb gc 3 = gg at *
  generalize (⟨fa, fb, fc⟩ : Bin) = F at *
  generalize (⟨ga, gb, gc⟩ : Bin) = G at *
  have HCF := Lib.hid (chk_zero (f := F))
  have HCG := Lib.hid (chk_zero (f := G))
  generalize chk F = ef at *
  generalize chk G = eg at *
  have HRF := Lib.hid hrf
  have HRG := Lib.hid hrg
  have C18 := Lib.hid (c18)
  have C20 := Lib.hid c20
  have C21 := Lib.hid c21
  have C22 := Lib.hid c22
  have HXP := Lib.hid hxp
  have HYP := Lib.hid hyp
  have PF := Lib.hid pf
  have PG := Lib.hid pg
  clear hrf hrg c18 c20 c21 c22 hxp hyp pf pg
  go_enter Try.func5, Try.ntmps5
  go_wp2_with fail
  go_at_call 15; (with_reducible refine (works9 _).mono ?_); rintro e w1 ⟨rfl, hb1⟩
  have k2 := ((Blk.new w 23 #[.int .i64 fa, .int .i64 fb, .int .i64 fc]).alloc (Obj.cells #[.int .i64 ga, .int .i64 gb, .int .i64 gc] 23)).below' hb1
  have k3 := (Blk.new2 w (Obj.cells #[.int .i64 fa, .int .i64 fb, .int .i64 fc] 23) 23 #[.int .i64 ga, .int .i64 gb, .int .i64 gc]).below' hb1
  have BT : Hid (Below w.heap.size w w1) := Lib.hid (bstepAA (Below.refl w.heap.size w) hb1 (Nat.le_refl _))
  have K := Lib.hid (And.intro k2 k3)
  obtain ⟨c0, c1, c2⟩ := k2.c3
  obtain ⟨d0, d1, d2⟩ := k3.c3
  clear hb1 k2 k3
  go_wp2_with fail
  go_at_call 17; (with_reducible refine (HRF.out _).mono ?_); rintro e w2 ⟨rfl, hb2⟩
  have k2 := K.out.1.below' hb2
  have k3 := K.out.2.below' hb2
  have k5 := Blk.new w2 23 #[.int .i64 x.a, .int .i64 x.b, .int .i64 x.c]
  replace BT : Hid (Below w.heap.size w w2) := Lib.hid (bstep BT.out hb2 (Nat.le_refl _))
  replace K : Hid _ := Lib.hid (And.intro k2 (And.intro k3 k5))
  clear c0 c1 c2 d0 d1 d2
  obtain ⟨c0, c1, c2⟩ := k2.c3
  obtain ⟨d0, d1, d2⟩ := k3.c3
  have l2 := k2.lt
  have l3 := k3.lt
  clear hb2 k2 k3 k5
  go_wp2_with fail
  go_at_call 17; (with_reducible refine (HRG.out _).mono ?_); rintro e w3 ⟨rfl, hb3⟩
  have k2 := ((K.out.1.alloc (Obj.cells #[.int .i64 x.a, .int .i64 x.b, .int .i64 x.c] 23)).alloc (Obj.cells #[.int .i64 Tp, .int .i64 Tq, .int .i64 Tr, .int .i64 Ts] 35)).below' hb3
  have k3 := ((K.out.2.1.alloc (Obj.cells #[.int .i64 x.a, .int .i64 x.b, .int .i64 x.c] 23)).alloc (Obj.cells #[.int .i64 Tp, .int .i64 Tq, .int .i64 Tr, .int .i64 Ts] 35)).below' hb3
  have k5 := (K.out.2.2.alloc (Obj.cells #[.int .i64 Tp, .int .i64 Tq, .int .i64 Tr, .int .i64 Ts] 35)).below' hb3
  replace BT : Hid (Below w.heap.size w w3) := Lib.hid (bstepAA BT.out hb3 (Nat.le_refl _))
  have k8 := Blk.new w3 23 #[.int .i64 y.a, .int .i64 y.b, .int .i64 y.c]
  replace K : Hid _ := Lib.hid (And.intro k2 (And.intro k3 (And.intro k5 k8)))
  clear c0 c1 c2 d0 d1 d2 l2 l3
  obtain ⟨c0, c1, c2⟩ := k2.c3
  obtain ⟨d0, d1, d2⟩ := k3.c3
  have l2 := k2.lt
  have l3 := k3.lt
  clear hb3 k2 k3 k5 k8
  by_cases hef : ef = 0
  · by_cases heg : eg = 0
    · subst hef heg
      have hwf := HCF.out rfl
      have hwg := HCG.out rfl
      have k2 := ((K.out.1).alloc (Obj.cells #[.int .i64 y.a, .int .i64 y.b, .int .i64 y.c] 23)).alloc (Obj.cells #[.int .i64 Up, .int .i64 Uq, .int .i64 Ur, .int .i64 Us] 35)
      have k3 := ((K.out.2.1).alloc (Obj.cells #[.int .i64 y.a, .int .i64 y.b, .int .i64 y.c] 23)).alloc (Obj.cells #[.int .i64 Up, .int .i64 Uq, .int .i64 Ur, .int .i64 Us] 35)
      have k5 := ((K.out.2.2.1).alloc (Obj.cells #[.int .i64 y.a, .int .i64 y.b, .int .i64 y.c] 23)).alloc (Obj.cells #[.int .i64 Up, .int .i64 Uq, .int .i64 Ur, .int .i64 Us] 35)
      have k8 := (K.out.2.2.2).alloc (Obj.cells #[.int .i64 Up, .int .i64 Uq, .int .i64 Ur, .int .i64 Us] 35)
      replace BT : Hid (Below w.heap.size w ((w3.alloc (Obj.cells #[.int .i64 y.a, .int .i64 y.b, .int .i64 y.c] 23)).alloc (Obj.cells #[.int .i64 Up, .int .i64 Uq, .int .i64 Ur, .int .i64 Us] 35))) := Lib.hid ((BT.out.alloc BT.out.size _).alloc (by have := BT.out.size; simp; omega) _)
      clear c0 c1 c2 d0 d1 d2 l2 l3 K
      have hb1 : ((0 : Int) != 0) = false := rfl
      go_upto_region 5 with fail
      generalize (w3.alloc (Obj.cells #[.int .i64 y.a, .int .i64 y.b, .int .i64 y.c] 23)).alloc (Obj.cells #[.int .i64 Up, .int .i64 Uq, .int .i64 Ur, .int .i64 Us] 35) = W at *
      obtain ⟨c0, c1, c2⟩ := k2.c3
      obtain ⟨d0, d1, d2⟩ := k3.c3
      have l2 := k2.lt
      have l3 := k3.lt
      have K := Lib.hid (And.intro k2 (And.intro k3 (And.intro k5 k8)))
      clear k2 k3 k5 k8
      have c20 := fun W => C20.out hwf.1 W
      have c21 := fun W => C21.out hwf.1 W
      have c22 := fun W => C22.out hwg.1 W
      by_cases hd : F.disc ≤ 65536
      · by_cases hgf : gf = 1
        · by_cases hgg : gg = 1
          · subst hgf hgg
            have hpf := PF.out.1 rfl
            have hpg := PG.out.1 rfl
            obtain ⟨hcr, hlt, h4⟩ := crossB_true hwf.2
            have hs := root_small hwf.2 hd
            obtain ⟨nx, hx1, hx2, hx3⟩ := HXP.out trivial
            have hxp : prim x := by rw [hx1]; exact prim_It hcr rfl hpf nx
            obtain ⟨p1, p2, p3, p4⟩ := princ_facts hwf.2
            have hpc := princ_chk hwf.2 hd
            have hA := all_at hcr hs
            have hxm := mem_flat hcr hA hx3 hx2 hxp
            have hpm := mem_flat hcr hA p1 p2 p3
            have hpl := fun y => plc_iff hcr hs hA (y := y) hxm hx3 hx2
            have c12 := Lib.hid (fun W => all_ok F.disc (rt F.disc) W hcr hd hwf.2 h4 hs)
            have c11 := Lib.hid (fun W => princ_ok F.disc W hd hwf.2)
            have c22' := fun W => reduced_ok (princ F.disc) (rt F.disc) W hpc (by rw [p1])
            rw [decide_eq_true p2] at c22'
            have hLn : (outTo F.disc (rt F.disc) (listR F.disc (rt F.disc) (2 * rt F.disc + 1).toNat) (listR F.disc (rt F.disc) (2 * rt F.disc + 1).toNat).length).length ≤ 4000 := Nat.le_trans (outTo_len _ _ _ _) (listR_len hcr hs)
            have hRow := outTo_rows F.disc (rt F.disc) (listR F.disc (rt F.disc) (2 * rt F.disc + 1).toNat) (listR F.disc (rt F.disc) (2 * rt F.disc + 1).toNat).length
            have hxw : Within 1073741824 x := within_red hcr (by omega) hx3 hx2
            have hyw : Within 1073741824 y ∧ y.disc = G.disc := by
              obtain ⟨hcg, hlg, _⟩ := crossB_true hwg.2
              obtain ⟨m, hy1, hy2, hy3⟩ := HYP.out trivial
              refine ⟨?_, hy3⟩
              rw [hy1]
              exact It_within hcg (lt_of_mul_self_lt (by omega) (by have := hcg.lt; omega)) m rfl hwg.1
            have C18' := Lib.hid (fun W => C18.out (cy F.disc (rt F.disc) x) (per F.disc (rt F.disc) x) F.disc y.disc W HRF.out HRG.out (fun W => by have := discf_any x W hxw; rwa [hx3] at this) (fun W => discf_any y W hyw.1) (fun _ W => by
              obtain ⟨q0, q1, q2, q3⟩ := per_spec hcr hs hx3 hx2
              exact round_closes (fun k => It F.disc (rt F.disc) k x) F.disc (rt F.disc) (per F.disc (rt F.disc) x) W (fun k => It_succ' _ _ k x) (fun k => ⟨within_red hcr (by omega) (It_disc hcr k hx3) (It_red hcr k hx3 hx2), It_disc hcr k hx3⟩) hcr (by omega) q0 q1 q2 q3) (cy_length _ _ _) (per_le _ _ _))
            have hres : decide (F.disc = y.disc ∧ y ∈ cy F.disc (rt F.disc) x) = decide ((plc (outTo F.disc (rt F.disc) (listR F.disc (rt F.disc) (2 * rt F.disc + 1).toNat) (listR F.disc (rt F.disc) (2 * rt F.disc + 1).toNat).length) x : Int) = plc (outTo F.disc (rt F.disc) (listR F.disc (rt F.disc) (2 * rt F.disc + 1).toNat) (listR F.disc (rt F.disc) (2 * rt F.disc + 1).toNat).length) y) := by
              rw [Bool.eq_iff_iff, decide_eq_true_iff, decide_eq_true_iff]
              have h5 := hpl y
              constructor
              · rintro ⟨_, h6⟩; have := h5.2 h6; omega
              · intro h6
                have h7 := h5.1 (by omega)
                obtain ⟨k, hk⟩ := (mem_cy hcr hs hx3 hx2 y).1 h7
                exact ⟨by rw [hk]; exact (It_disc hcr k hx3).symm, h7⟩
            have hnd := hA.nodup
            have hplx1 : 1 ≤ plc (outTo F.disc (rt F.disc) (listR F.disc (rt F.disc) (2 * rt F.disc + 1).toNat) (listR F.disc (rt F.disc) (2 * rt F.disc + 1).toNat).length) x := by obtain ⟨_, _, _, _, h⟩ := plc_pos hnd hxm; omega
            have hplp1 : 1 ≤ plc (outTo F.disc (rt F.disc) (listR F.disc (rt F.disc) (2 * rt F.disc + 1).toNat) (listR F.disc (rt F.disc) (2 * rt F.disc + 1).toNat).length) (princ F.disc) := by obtain ⟨_, _, _, _, h⟩ := plc_pos hnd hpm; omega
            clear hpl hA hxm hpm hxp hx1 hx2 hx3 p1 p2 p3 hpc hcr hlt h4 hs hxw hyw hpf hpg HRF HRG C18 HXP HYP PF PG HCF HCG C20 C21 C22 hwf hwg
            generalize outTo F.disc (rt F.disc) (listR F.disc (rt F.disc) (2 * rt F.disc + 1).toNat) (listR F.disc (rt F.disc) (2 * rt F.disc + 1).toNat).length = LL at *
            generalize decide (F.disc = y.disc ∧ y ∈ cy F.disc (rt F.disc) x) = B at *
            have HRES := Lib.hid hres
            have HND := Lib.hid hnd
            have HROW := Lib.hid hRow
            have HP1 := Lib.hid (And.intro hplx1 hplp1)
            clear hres hnd hRow hplx1 hplp1
            generalize princ F.disc = p at *
            obtain ⟨pa, pb, pc⟩ := p
            simp only at p4
            subst p4
            simp only at c11 c22'
            generalize F.disc = d at *
            have hd1 : ¬ 65536 < d := by omega
            have BW : Hid (Below W.heap.size W W) := Below.refl _ _
            have aW : w.heap.size + 1 < W.heap.size := l3
            have eW : w.heap.size < W.heap.size := l2
            clear l2 l3
            have hn1 : (((1 : Nat) : Int) != 1) = false := rfl
            go_wp2_with fail
            go_at_call 20; (with_reducible refine (c20 _).mono ?_); rintro e w4 ⟨rfl, hb⟩
            obtain ⟨hcw4, hfw4⟩ := bcell hb
            have aw4 : w.heap.size + 1 < w4.heap.size := Nat.lt_of_lt_of_le aW (Nat.le_trans (Nat.le_refl _) hb.size)
            have ew4 : w.heap.size < w4.heap.size := Nat.lt_of_succ_lt aw4
            replace BW : Hid (Below W.heap.size W w4) := Lib.hid (bstep BW.out hb (Nat.le_refl _))
            clear hb
            go_wp2_with fail
            go_at_call 21; (with_reducible refine (c21 _).mono ?_); rintro e w5 ⟨rfl, hb⟩
            obtain ⟨hcw5, hfw5⟩ := bcell hb
            have aw5 : w.heap.size + 1 < w5.heap.size := Nat.lt_of_lt_of_le aw4 (Nat.le_trans (Nat.le_refl _) hb.size)
            have ew5 : w.heap.size < w5.heap.size := Nat.lt_of_succ_lt aw5
            replace BW : Hid (Below W.heap.size W w5) := Lib.hid (bstep BW.out hb (Nat.le_refl _))
            clear hb
            go_wp2_with fail
            go_at_call 21; (with_reducible refine (c22 _).mono ?_); rintro e w6 ⟨rfl, hb⟩
            obtain ⟨hcw6, hfw6⟩ := bcell hb
            have aw6 : w.heap.size + 1 < w6.heap.size := Nat.lt_of_lt_of_le aw5 (Nat.le_trans (Nat.le_refl _) hb.size)
            have ew6 : w.heap.size < w6.heap.size := Nat.lt_of_succ_lt aw6
            replace BW : Hid (Below W.heap.size W w6) := Lib.hid (bstep BW.out hb (Nat.le_refl _))
            clear hb
            go_wp2_with fail
            go_at_call 20; (with_reducible refine (c20 _).mono ?_); rintro e w7 ⟨rfl, hb⟩
            obtain ⟨hcw7, hfw7⟩ := bcell hb
            have aw7 : w.heap.size + 1 < w7.heap.size := Nat.lt_of_lt_of_le aw6 (Nat.le_trans (Nat.le_refl _) hb.size)
            have ew7 : w.heap.size < w7.heap.size := Nat.lt_of_succ_lt aw7
            replace BW : Hid (Below W.heap.size W w7) := Lib.hid (bstep BW.out hb (Nat.le_refl _))
            clear hb
            go_wp2_with fail
            go_at_call 12; (with_reducible refine (c12.out _).mono ?_); rintro e w8 ⟨v, rfl, hO, hb⟩
            obtain ⟨hcw8, hfw8⟩ := bcell hb
            have aw8 : w.heap.size + 1 < w8.heap.size := Nat.lt_of_lt_of_le aw7 (Nat.le_trans (Nat.le_refl _) hb.size)
            have ew8 : w.heap.size < w8.heap.size := Nat.lt_of_succ_lt aw8
            replace BW : Hid (Below W.heap.size W w8) := Lib.hid (bstep BW.out hb (Nat.le_refl _))
            obtain ⟨A, cA, rfl⟩ := hO.len
            have HO := Lib.hid hO
            clear hO
            clear hb
            go_wp2_with fail
            go_at_call 20; (with_reducible refine (c20 _).mono ?_); rintro e w9 ⟨rfl, hb⟩
            obtain ⟨hcw9, hfw9⟩ := bcell hb
            have aw9 : w.heap.size + 1 < w9.heap.size := Nat.lt_of_lt_of_le aw8 (Nat.le_trans (Nat.le_refl _) hb.size)
            have ew9 : w.heap.size < w9.heap.size := Nat.lt_of_succ_lt aw9
            replace BW : Hid (Below W.heap.size W w9) := Lib.hid (bstep BW.out hb (Nat.le_refl _))
            replace HO : Hid (OwnLL w9 w7.heap.size _ LL) := Lib.hid (HO.out.below hb)
            clear hb
            go_wp2_with fail
            go_at_call 11; (with_reducible refine (c11.out _).mono ?_); rintro e w10 ⟨rfl, hb⟩
            obtain ⟨hcw10, hfw10⟩ := bcell hb
            have aw10 : w.heap.size + 1 < w10.heap.size := Nat.lt_of_lt_of_le aw9 (Nat.le_trans (Nat.le_refl _) hb.size)
            have ew10 : w.heap.size < w10.heap.size := Nat.lt_of_succ_lt aw10
            replace BW : Hid (Below W.heap.size W w10) := Lib.hid (bstep BW.out hb (Nat.le_refl _))
            replace HO : Hid (OwnLL w10 w7.heap.size _ LL) := Lib.hid (HO.out.below hb)
            clear hb
            have kp := Blk.new w10 23 #[.int .i64 1, .int .i64 pb, .int .i64 pc]
            have KP := Lib.hid kp
            clear kp
            go_wp2_with fail
            go_at_call 22; (with_reducible refine (c22' _).mono ?_); rintro e w11 ⟨rfl, hb⟩
            replace BW : Hid (Below W.heap.size W w11) := Lib.hid (bstepA BW.out hb (Nat.le_refl _))
            have KO := K.out
            replace K : Hid _ := Lib.hid (And.intro (KO.1.below' BW.out) (And.intro (KO.2.1.below' BW.out) (And.intro (KO.2.2.1.below' BW.out) (And.intro (KO.2.2.2.below' BW.out) (KP.out.below' hb)))))
            clear KO
            replace HO : Hid (OwnLL w11 w7.heap.size _ LL) := Lib.hid ((HO.out.grown (World.grownBy_alloc w10 (Obj.cells #[.int .i64 1, .int .i64 pb, .int .i64 pc] 23) none) (by intro k hk; cases hk)).below hb)
            replace BT : Hid (Below w.heap.size w w11) := Lib.hid (bstep BT.out BW.out (Nat.le_refl _))
            obtain ⟨z0, z1, z2⟩ := K.out.2.2.2.2.c3
            clear hb hcw4 hfw4 hcw5 hfw5 hcw6 hfw6 hcw7 hfw7 hcw8 hfw8 hcw9 hfw9 hcw10 hfw10 c0 c1 c2 d0 d1 d2 c11 c12 c20 c21 c22 c22' BW KP
            generalize hn : LL.length = n at *
            have HN := Lib.hid hn
            clear hn
            have hmm := fun W => run_map43 W
            have G10 : w10.heap.size < w11.heap.size := K.out.2.2.2.2.lt
            go_wp2
            have hMm : Hid (MapV (w11.alloc (.map #[] 0)) w11.heap.size (plV LL ((LL.take 0).flatten))) := (MapV.made w11).congr (fun f => by simp [plV])
            clear z0 z1 z2 hmm G10
            go_loopw [88] (fun u wr => ∃ i : Nat, u = .int .i64 i ∧ i ≤ n ∧ Hid (MapV wr w11.heap.size (plV LL ((LL.take i).flatten))) ∧ Hid (RowKit.Below w11.heap.size w11 wr) ∧ w11.heap.size < wr.heap.size) (fun u _ => (n - intOf u).toNat)
            case atStart => exact ⟨0, rfl, by omega, hMm.out, (Below.refl _ _).alloc (Nat.le_refl _) _, by simp⟩
            case round =>
              clear hMm
              obtain ⟨i, rfl, hin, hMp, hBe, hsz⟩ := hrel
              rename World => wo
              by_cases hlt : i < n
              · obtain ⟨Li, hLi⟩ : ∃ l, LL[i]? = some l := ⟨_, List.getElem?_eq_getElem (by rw [HN.out]; exact hlt)⟩
                have hLe : Li.length ≤ 4096 := HROW.out Li (List.mem_of_getElem? hLi)
                obtain ⟨g1, u1, hA1, hg1, hk1, hr1⟩ := OwnLL.at' HN.out (HO.out.below hBe.out) hLi
                subst hA1
                obtain ⟨A1, c1, rfl⟩ := own_slice hr1
                have HR1 : Hid (w11.ownsRow w7.heap.size 23 3 (.slice A1 Li.length c1) Li.length (rowOf Li)) := by
                  obtain ⟨g1', u1', hA1, hg1', hk1', hr1'⟩ := OwnLL.at' HN.out HO.out hLi
                  obtain rfl : g1 = g1' := by simpa using hA1
                  have e1 := (hBe.out.cell (p := ⟨g1, i, none⟩) hg1').trans hk1'
                  rw [hk1] at e1
                  obtain rfl : Value.slice A1 Li.length c1 = u1' := by simpa using e1
                  exact hr1'
                have HLI := Lib.hid hLi
                clear hLi hr1
                generalize hni : Li.length = ni at *
                have HNI := Lib.hid hni
                clear hni
                go_wp2
                have hM0 : Hid (MapV wo w11.heap.size (plV LL ((LL.take i).flatten ++ Li.take 0))) := by rw [List.take_zero, List.append_nil]; exact hMp.out
                clear hMp
                go_loopw [95] (fun u wi => ∃ t : Nat, u = .int .i64 t ∧ t ≤ ni ∧ Hid (MapV wi w11.heap.size (plV LL ((LL.take i).flatten ++ Li.take t))) ∧ Hid (RowKit.Below w11.heap.size w11 wi) ∧ w11.heap.size < wi.heap.size) (fun u _ => (ni - intOf u).toNat)
                case atStart => exact ⟨0, rfl, by omega, hM0.out, hBe.out, hsz⟩
                case round =>
                  clear hM0 hBe hsz hk1 hg1
                  obtain ⟨t, rfl, htn, hMp, hBe, hsz⟩ := hrel
                  rename World => wi
                  by_cases htl : t < ni
                  · have hr1 := own_below HR1.out hBe.out
                    obtain ⟨gi, hAi, hgi, hgi2⟩ := own_at hr1 (by omega)
                    subst hAi
                    obtain ⟨t0, t1, t2⟩ := own_binN HNI.out hr1 htl
                    have hfr := fresh_at HND.out HLI.out (t := t) (by rw [HNI.out]; exact htl)
                    have hpl := plc_at HND.out HLI.out (f := nth Li t) (nth_mem (by rw [HNI.out]; exact htl))
                    have hmp := hMp.out.grown (World.grownBy_alloc wi (Obj.cells #[.int .i64 (nth Li t).a, .int .i64 (nth Li t).b, .int .i64 (nth Li t).c] 23) none) (by simp)
                    have hlk := hmp.look 43 3 Try.underlying43 (.int .i64 0) (zero3 _) (nth Li t)
                    have hsv : (plV LL ((LL.take i).flatten ++ Li.take t) (nth Li t)).getD (.int .i64 0) = .int .i64 0 := by unfold plV; rw [if_neg hfr]; rfl
                    rw [hsv] at hlk
                    unfold aggB at hlk
                    have HMP := Lib.hid hmp
                    have HPL := Lib.hid hpl
                    clear hmp hpl hfr hsv hr1
                    go_wp2_with (at_mapUpdate
                                 refine wpList_put23 _ rfl _ _ _ 43 rfl 3 Try.underlying43 w11.heap.size _ rfl HMP.out (nth Li t) rfl (.int .i64 ((i : Int) + 1)) rfl ?_
                                 intro w6 hM6 hG6)
                    go_roundw
                    case rel =>
                      have hs6 := hG6.size
                      rw [World.size_alloc] at hs6
                      exact ⟨t + 1, by simp, by omega, hM6.congr (fun f => by rw [plV_snoc _ _ _ _ _ (by rw [HPL.out]; simp), List.append_assoc, ← take_nth (by rw [HNI.out]; exact htl)]), below_grownby (below_grownby hBe.out (World.grownBy_alloc wi (Obj.cells #[.int .i64 (nth Li t).a, .int .i64 (nth Li t).b, .int .i64 (nth Li t).c] 23) none) (by omega) (by intro k hk; cases hk)) hG6 (by simp; omega) (by intro k hk; cases hk; exact Nat.le_refl _), by omega⟩
                    case measure => simp [intOf]; omega
                  · have hte : t = ni := by omega
                    go_wp2
                    go_roundw
                    case rel => exact ⟨i + 1, by simp, by omega, by show MapV _ _ _; rw [flat_take HLI.out, ← List.take_length (l := Li), HNI.out, ← hte]; exact hMp.out, hBe.out, hsz⟩
                    case measure => simp [intOf]; omega
              · have hie : i = n := by omega
                have hMf : Hid (MapV wo w11.heap.size (plV LL LL.flatten)) := by
                  have := hMp.out
                  rw [hie, ← HN.out, List.take_length] at this
                  exact this
                have HIE := Lib.hid hie
                clear hie hMp
                have m1 := K.out.1.below' hBe.out
                have m2 := K.out.2.1.below' hBe.out
                obtain ⟨c0, c1, c2⟩ := m1.c3
                obtain ⟨d0, d1, d2⟩ := m2.c3
                clear m1 m2
                go_wp2_with fail
                go_at_call 18; (with_reducible refine (C18'.out _).mono ?_); rintro e w12 ⟨rfl, hb⟩
                have m5 := (K.out.2.2.1.below' hBe.out).below' hb
                have m8 := (K.out.2.2.2.1.below' hBe.out).below' hb
                have m13 := (K.out.2.2.2.2.below' hBe.out).below' hb
                obtain ⟨x0, x1, x2⟩ := m5.c3
                obtain ⟨y0, y1, y2⟩ := m8.c3
                obtain ⟨z0, z1, z2⟩ := m13.c3
                have HBF : Hid (Below w.heap.size w w12) := bstep (bstep BT.out hBe.out (Nat.le_refl _)) hb (Nat.le_refl _)
                have hM := hMf.out.grown (grow_below hb none) (by simp)
                have hlk := fun (f : Bin) (k : Nat) => (hM.grown (grow_drewN w12 k none) (by simp)).look 43 3 Try.underlying43 (.int .i64 0) (zero3 _) f
                simp only [plV_all] at hlk
                have hlx := hlk x
                have hly := hlk y
                have hlp := hlk ⟨1, pb, pc⟩
                unfold aggB at hlx hly hlp
                simp only at hlp
                have hn1 : (((plc LL x : Nat) : Int) != 0) = true := by have := HP1.out.1; simp; omega
                have hn2 : (((plc LL ⟨1, pb, pc⟩ : Nat) : Int) != 0) = true := by have := HP1.out.2; simp; omega
                have hbb : (B == (((plc LL x : Nat) : Int) == ((plc LL y : Nat) : Int))) = true := by rw [HRES.out, beq_iff_eq, Bool.eq_iff_iff, decide_eq_true_iff, beq_iff_eq]
                clear hb hM hlk m5 m8 m13 hMf c0 c1 c2 d0 d1 d2 hBe hsz
                generalize plc LL x = qx at *
                generalize plc LL y = qy at *
                generalize plc LL ⟨1, pb, pc⟩ = qp at *
                go_wp2_with fail
                go_quiet (fail)
                go_wp2
                go_ret
                exact ⟨rfl, below_drewN HBF.out _⟩
          · have hb3 : (((gf : Nat) : Int) != 1) = false := by simp [hgf]
            have hb4 : (((gg : Nat) : Int) != 1) = true := by simp; omega
            have hd1 : ¬ 65536 < F.disc := by omega
            have HH := Lib.hid (And.intro hgf hgg)
            clear hgf hgg
            go_wp2_with (first
              | (go_at_call 20; (with_reducible refine (c20 _).mono ?_); rintro e w4 ⟨rfl, hb4⟩
                 obtain ⟨hc4, hf4⟩ := bcell hb4
                 have l4 : w.heap.size + 1 < w4.heap.size := Nat.lt_of_lt_of_le l3 hb4.size
                 have l4' : w.heap.size < w4.heap.size := Nat.lt_of_lt_of_le l2 hb4.size
                 replace BT : Hid (Below w.heap.size w w4) := Lib.hid (bstep BT.out hb4 (Nat.le_refl _))
                 clear hb4)
              | (go_at_call 21; (with_reducible refine (c21 _).mono ?_); rintro e w5 ⟨rfl, hb5⟩
                 obtain ⟨hc5, hf5⟩ := bcell hb5
                 have l5 : w.heap.size + 1 < w5.heap.size := Nat.lt_of_lt_of_le l4 hb5.size
                 have l5' : w.heap.size < w5.heap.size := Nat.lt_of_lt_of_le l4' hb5.size
                 replace BT : Hid (Below w.heap.size w w5) := Lib.hid (bstep BT.out hb5 (Nat.le_refl _))
                 clear hb5)
              | (go_at_call 21; (with_reducible refine (c22 _).mono ?_); rintro e w6 ⟨rfl, hb6⟩
                 replace BT : Hid (Below w.heap.size w w6) := Lib.hid (bstep BT.out hb6 (Nat.le_refl _))
                 clear hb6))
            go_ret
            exact ⟨rfl, BT.out⟩
        · have hb3 : (((gf : Nat) : Int) != 1) = true := by simp; omega
          have hd1 : ¬ 65536 < F.disc := by omega
          have HH := Lib.hid hgf
          clear hgf
          go_wp2_with (first
            | (go_at_call 20; (with_reducible refine (c20 _).mono ?_); rintro e w4 ⟨rfl, hb4⟩
               obtain ⟨hc4, hf4⟩ := bcell hb4
               have l4 : w.heap.size + 1 < w4.heap.size := Nat.lt_of_lt_of_le l3 hb4.size
               have l4' : w.heap.size < w4.heap.size := Nat.lt_of_lt_of_le l2 hb4.size
               replace BT : Hid (Below w.heap.size w w4) := Lib.hid (bstep BT.out hb4 (Nat.le_refl _))
               clear hb4)
            | (go_at_call 21; (with_reducible refine (c21 _).mono ?_); rintro e w5 ⟨rfl, hb5⟩
               replace BT : Hid (Below w.heap.size w w5) := Lib.hid (bstep BT.out hb5 (Nat.le_refl _))
               clear hb5))
          go_ret
          exact ⟨rfl, BT.out⟩
      · have hd1 : 65536 < F.disc := by omega
        have HH := Lib.hid hd
        clear hd
        go_wp2_with (go_at_call 20; (with_reducible refine (c20 _).mono ?_); rintro e w4 ⟨rfl, hb4⟩
                     replace BT : Hid (Below w.heap.size w w4) := Lib.hid (bstep BT.out hb4 (Nat.le_refl _))
                     clear hb4)
        go_ret
        exact ⟨rfl, BT.out⟩
    · have hb : (ef != 0) = false := by simp [hef]
      have hb2 : (eg != 0) = true := by simpa using heg
      have HH := Lib.hid (And.intro hef heg)
      clear hef heg
      go_wp2
      go_ret
      exact ⟨rfl, (BT.out.alloc BT.out.size _).alloc (by have := BT.out.size; simp; omega) _⟩
  · have hb : (ef != 0) = true := by simpa using hef
    have HH := Lib.hid hef
    clear hef
    go_wp2
    go_ret
    exact ⟨rfl, (BT.out.alloc BT.out.size _).alloc (by have := BT.out.size; simp; omega) _⟩

theorem law5' (a b c a' b' c' : Int) (w : World) (_ : (Lit.int .i64 a).wf = true) (_ : (Lit.int .i64 b).wf = true) (_ : (Lit.int .i64 c).wf = true) (_ : (Lit.int .i64 a').wf = true) (_ : (Lit.int .i64 b').wf = true) (_ : (Lit.int .i64 c').wf = true) :
    Calls Try.prog 5 #[.agg #[.int .i64 a, .int .i64 b, .int .i64 c], .agg #[.int .i64 a', .int .i64 b', .int .i64 c']] w fun e w' => e = .returned (.bool true) ∧ Below w.heap.size w w' := law5 ⟨a, b, c⟩ ⟨a', b', c'⟩ w

end Go.Proofs.Ytljhbjkdifmonaa
