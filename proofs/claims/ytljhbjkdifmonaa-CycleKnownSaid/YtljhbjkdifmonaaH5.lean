/- Cycles as classes: each reduced form stands once in the list of all cycles, and two stand in one cycle just if one follows the other. -/
import Derived.Test.YtljhbjkdifmonaaG1
import Derived.Test.YtljhbjkdifmonaaQy2
import Derived.Test.YtljhbjkdifmonaaG3
import Derived.Test.YtljhbjkdifmonaaG4
import Derived.OneCell
namespace Pq

theorem It_mul {d s : Int} {f : Bin} {N : Nat} (h : It d s N f = f) : ∀ m, It d s (N * m) f = f
  | 0 => rfl
  | m + 1 => by rw [Nat.mul_succ, It_add, It_mul h m, h]
theorem It_mod {d s : Int} {f : Bin} {N : Nat} (h : It d s N f = f) (k : Nat) : It d s (k % N) f = It d s k f := by
  conv => rhs; rw [← Nat.div_add_mod k N]
  rw [It_add, It_mul h]

theorem mem_cy {d s : Int} (h : Cross d s) (hs : s ≤ 255) {f : Bin} (hf : f.disc = d) (hr : Red s f) (g : Bin) : g ∈ cy d s f ↔ ∃ k, g = It d s k f := by
  obtain ⟨h0, _, h2, _⟩ := per_spec h hs hf hr
  constructor
  · intro hg
    obtain ⟨k, _, rfl⟩ := List.mem_map.1 hg
    exact ⟨k, rfl⟩
  · rintro ⟨k, rfl⟩
    exact List.mem_map.2 ⟨k % per d s f, List.mem_range.2 (Nat.mod_lt _ h0), It_mod h2 k⟩
theorem self_mem_cy {d s : Int} (h : Cross d s) (hs : s ≤ 255) {f : Bin} (hf : f.disc = d) (hr : Red s f) : f ∈ cy d s f := (mem_cy h hs hf hr f).2 ⟨0, rfl⟩
theorem cy_back {d s : Int} (h : Cross d s) (hs : s ≤ 255) {f : Bin} (hf : f.disc = d) (hr : Red s f) (k : Nat) : ∃ j, f = It d s j (It d s k f) := by
  obtain ⟨h0, _, h2, _⟩ := per_spec h hs hf hr
  refine ⟨per d s f * k - k, ?_⟩
  rw [← It_add]
  have : k ≤ per d s f * k := Nat.le_mul_of_pos_left k h0
  rw [Nat.add_sub_cancel' this, It_mul h2]
theorem cy_nodup {d s : Int} (h : Cross d s) (hs : s ≤ 255) {f : Bin} (hf : f.disc = d) (hr : Red s f) : (cy d s f).Nodup := by
  obtain ⟨h0, _, h2, h3⟩ := per_spec h hs hf hr
  refine nodup_map _ _ List.nodup_range fun x hx y hy e => ?_
  have hx' := List.mem_range.1 hx
  have hy' := List.mem_range.1 hy
  rcases Nat.lt_trichotomy x y with hlt | heq | hlt
  · have := It_back h x (y - x) hf hr (by rw [Nat.add_sub_cancel' (by omega)]; exact e)
    exact (h3 (y - x) (by omega) (by omega) this).elim
  · exact heq
  · have := It_back h y (x - y) hf hr (by rw [Nat.add_sub_cancel' (by omega)]; exact e.symm)
    exact (h3 (x - y) (by omega) (by omega) this).elim

structure AllAt (d s : Int) (l : List Bin) (i : Nat) (LL : List (List Bin)) : Prop where
  rows : ∀ r ∈ LL, ∃ f, f.disc = d ∧ Red s f ∧ f ∈ l ∧ r = cy d s f
  nodup : LL.flatten.Nodup
  all : ∀ j, j < i → nth l j ∈ LL.flatten

theorem allAt {d s : Int} (h : Cross d s) (hs : s ≤ 255) (l : List Bin) (hl : ∀ f ∈ l, f.disc = d ∧ Red s f) : ∀ i, i ≤ l.length → AllAt d s l i (outTo d s l i)
  | 0, _ => ⟨fun r hr => by simp [outTo] at hr, by simp [outTo], fun j hj => by omega⟩
  | i + 1, hi => by
    have ih := allAt h hs l hl i (by omega)
    have hm : nth l i ∈ l := nth_mem (by omega)
    obtain ⟨hfd, hfr⟩ := hl _ hm
    by_cases hmem : nth l i ∈ (outTo d s l i).flatten
    · rw [outTo_mem i hmem]
      refine ⟨ih.rows, ih.nodup, fun j hj => ?_⟩
      rcases (show j < i ∨ j = i by omega) with h1 | rfl
      · exact ih.all j h1
      · exact hmem
    · rw [outTo_new i hmem]
      refine ⟨fun r hr => ?_, ?_, fun j hj => ?_⟩
      · rcases List.mem_append.1 hr with h1 | h1
        · exact ih.rows r h1
        · simp at h1; subst h1; exact ⟨_, hfd, hfr, hm, rfl⟩
      · rw [List.flatten_append, List.nodup_append]
        refine ⟨ih.nodup, by simpa using cy_nodup h hs hfd hfr, fun x hx y hy e => ?_⟩
        subst e
        simp at hy
        obtain ⟨k, rfl⟩ := (mem_cy h hs hfd hfr x).1 hy
        obtain ⟨r, hr, hxr⟩ := List.mem_flatten.1 hx
        obtain ⟨f0, h1, h2, _, rfl⟩ := ih.rows r hr
        obtain ⟨k0, hk0⟩ := (mem_cy h hs h1 h2 _).1 hxr
        obtain ⟨j, hj⟩ := cy_back h hs hfd hfr k
        refine hmem (List.mem_flatten.2 ⟨_, hr, (mem_cy h hs h1 h2 _).2 ⟨k0 + j, ?_⟩⟩)
        rw [It_add, ← hk0]; exact hj
      · rw [List.flatten_append]
        rcases (show j < i ∨ j = i by omega) with h1 | rfl
        · exact List.mem_append_left _ (ih.all j h1)
        · exact List.mem_append_right _ (by simpa using self_mem_cy h hs hfd hfr)

/-- In which row a form stands, from 1 on; 0: in none. -/
def plc (LL : List (List Bin)) (f : Bin) : Nat := match LL.findIdx? (fun r => decide (f ∈ r)) with | some i => i + 1 | none => 0
theorem plc_none {LL : List (List Bin)} {f : Bin} (h : f ∉ LL.flatten) : plc LL f = 0 := by
  have : LL.findIdx? (fun r => decide (f ∈ r)) = none := by
    rw [List.findIdx?_eq_none_iff]
    intro r hr
    simp
    exact fun hf => h (List.mem_flatten.2 ⟨r, hr, hf⟩)
  unfold plc; rw [this]
theorem row_unique {LL : List (List Bin)} (hn : LL.flatten.Nodup) {i j : Nat} {r r' : List Bin} {f : Bin} (hi : LL[i]? = some r) (hj : LL[j]? = some r') (h1 : f ∈ r) (h2 : f ∈ r') : i = j := by
  have key : ∀ (LL : List (List Bin)), LL.flatten.Nodup → ∀ (i j : Nat) (r r' : List Bin), i < j → LL[i]? = some r → LL[j]? = some r' → f ∈ r → f ∈ r' → False := by
    intro LL
    induction LL with
    | nil => intro _ i j r r' _ hi; simp at hi
    | cons a LL ih =>
      intro hn i j r r' hij hi hj h1 h2
      rw [List.flatten_cons, List.nodup_append] at hn
      obtain ⟨j', rfl⟩ : ∃ j', j = j' + 1 := ⟨j - 1, by omega⟩
      rw [List.getElem?_cons_succ] at hj
      cases i with
      | zero =>
        simp at hi; subst hi
        exact hn.2.2 f h1 f (List.mem_flatten.2 ⟨r', List.mem_of_getElem? hj, h2⟩) rfl
      | succ i =>
        rw [List.getElem?_cons_succ] at hi
        exact ih hn.2.1 i j' r r' (by omega) hi hj h1 h2
  rcases Nat.lt_trichotomy i j with h | h | h
  · exact (key LL hn i j r r' h hi hj h1 h2).elim
  · exact h
  · exact (key LL hn j i r' r h hj hi h2 h1).elim
theorem plc_at {LL : List (List Bin)} (hn : LL.flatten.Nodup) {i : Nat} {r : List Bin} {f : Bin} (hi : LL[i]? = some r) (h1 : f ∈ r) : plc LL f = i + 1 := by
  unfold plc
  cases hq : LL.findIdx? (fun r => decide (f ∈ r)) with
  | none =>
    rw [List.findIdx?_eq_none_iff] at hq
    have := hq r (List.mem_of_getElem? hi)
    simp at this
    exact (this h1).elim
  | some k =>
    obtain ⟨hk, hp, _⟩ := List.findIdx?_eq_some_iff_getElem.1 hq
    have := row_unique hn (List.getElem?_eq_getElem hk) hi (by simpa using hp) h1
    simp [this]
theorem plc_pos {LL : List (List Bin)} (hn : LL.flatten.Nodup) {f : Bin} (h : f ∈ LL.flatten) : ∃ i r, LL[i]? = some r ∧ f ∈ r ∧ plc LL f = i + 1 := by
  obtain ⟨r, hr, hf⟩ := List.mem_flatten.1 h
  obtain ⟨i, hi, rfl⟩ := List.mem_iff_getElem.1 hr
  exact ⟨i, LL[i], List.getElem?_eq_getElem hi, hf, plc_at hn (List.getElem?_eq_getElem hi) hf⟩

/-- Two forms of the list stand in one row just if the second is on the first one's cycle. -/
theorem plc_iff {d s : Int} (h : Cross d s) (hs : s ≤ 255) {l : List Bin} {i : Nat} {LL : List (List Bin)} (hA : AllAt d s l i LL) {x y : Bin} (hx : x ∈ LL.flatten) (hxd : x.disc = d) (hxr : Red s x) : plc LL x = plc LL y ↔ y ∈ cy d s x := by
  obtain ⟨i, r, hi, hxi, hpi⟩ := plc_pos hA.nodup hx
  obtain ⟨f, hfd, hfr, _, rfl⟩ := hA.rows r (List.mem_of_getElem? hi)
  obtain ⟨k, hk⟩ := (mem_cy h hs hfd hfr x).1 hxi
  constructor
  · intro he
    by_cases hy : y ∈ LL.flatten
    · obtain ⟨j, r', hj, hyj, hpj⟩ := plc_pos hA.nodup hy
      have : i = j := by omega
      subst this
      rw [hi] at hj
      simp at hj; subst hj
      obtain ⟨m, hm⟩ := (mem_cy h hs hfd hfr y).1 hyj
      obtain ⟨b, hb⟩ := cy_back h hs hfd hfr k
      refine (mem_cy h hs hxd hxr y).2 ⟨b + m, ?_⟩
      rw [It_add, hk, ← hb]; exact hm
    · rw [plc_none hy] at he; omega
  · intro hy
    obtain ⟨m, hm⟩ := (mem_cy h hs hxd hxr y).1 hy
    rw [hpi, plc_at hA.nodup hi ((mem_cy h hs hfd hfr y).2 ⟨k + m, by rw [It_add, ← hk]; exact hm⟩)]

/-- The common divisor of the coefficients stays. -/
theorem prim_nxt {d s : Int} (h : Cross d s) {f : Bin} (hf : f.disc = d) (hp : prim f) : prim (nxt d s f) := by
  obtain ⟨k, hk⟩ := nb_form s f
  have hc := h.c_ne hf
  have hnc := nxt_c hc hf hk
  unfold prim at hp ⊢
  have hb : (nxt d s f).b = -f.b + 2 * f.c * k := hk
  have ha : (nxt d s f).a = f.c := rfl
  rw [ha, hb]
  generalize hg : Nat.gcd (Nat.gcd f.c.natAbs (-f.b + 2 * f.c * k).natAbs) (nxt d s f).c.natAbs = g
  have g1 : (g : Int) ∣ f.c := Int.ofNat_dvd_left.2 (hg ▸ Nat.dvd_trans (Nat.gcd_dvd_left _ _) (Nat.gcd_dvd_left _ _))
  have g2 : (g : Int) ∣ -f.b + 2 * f.c * k := Int.ofNat_dvd_left.2 (hg ▸ Nat.dvd_trans (Nat.gcd_dvd_left _ _) (Nat.gcd_dvd_right _ _))
  have g3 : (g : Int) ∣ (nxt d s f).c := Int.ofNat_dvd_left.2 (hg ▸ Nat.gcd_dvd_right _ _)
  obtain ⟨u, hu⟩ := g1
  obtain ⟨v, hv⟩ := g2
  obtain ⟨x, hx⟩ := g3
  have e1 : f.b = (g : Int) * (2 * u * k - v) := by grind
  have e2 : f.a = (g : Int) * (x + (2 * u * k - v) * k - u * k * k) := by grind
  have d1 : g ∣ f.c.natAbs := Int.ofNat_dvd_left.1 ⟨u, hu⟩
  have d2 : g ∣ f.b.natAbs := Int.ofNat_dvd_left.1 ⟨_, e1⟩
  have d3 : g ∣ f.a.natAbs := Int.ofNat_dvd_left.1 ⟨_, e2⟩
  have := Nat.dvd_gcd (Nat.dvd_gcd d3 d2) d1
  rw [hp] at this
  exact Nat.dvd_one.1 this
theorem prim_It {d s : Int} (h : Cross d s) {f : Bin} (hf : f.disc = d) (hp : prim f) : ∀ n, prim (It d s n f)
  | 0 => hp
  | n + 1 => by rw [It_succ']; exact prim_nxt h (It_disc h n hf) (prim_It h hf hp n)

end Pq

/- cycle.Next at one form; cycle.Cycle of a form that is let in; slices.Index and slices.Contains. -/
namespace Go.Proofs.Ytljhbjkdifmonaa
open Go.RowKit Pq

theorem next_w_pure : YtljhbjkdifmonaaX.Q.cycle_Next.f 1 0 (-2) = some (-2, 0, 1, 0, -1, 1, 0, 0) := by kernel_rfl
theorem next_w (w : World) : Calls Try.prog 56 #[.agg #[.int .i64 1, .int .i64 0, .int .i64 (-2)]] w fun e w' => e = .returned (.tuple #[.agg #[.int .i64 (-2), .int .i64 0, .int .i64 1], .agg #[.int .i64 0, .int .i64 (-1), .int .i64 1, .int .i64 0], .int .i64 0]) ∧ Below w.heap.size w w' :=
  YtljhbjkdifmonaaX.Q.cycle_Next.calls 1 0 (-2) _ _ _ _ _ _ _ _ w next_w_pure

set_option maxRecDepth 100000 in
set_option maxHeartbeats 2000000 in
theorem cycle_calls (f g : Bin) (T : Trn) (l : List Bin) (N : Nat) (w : World)
    (hr : ∀ W, Calls Try.prog 17 #[.agg #[.int .i64 f.a, .int .i64 f.b, .int .i64 f.c]] W fun e w' => e = .returned (.tuple #[.agg #[.int .i64 g.a, .int .i64 g.b, .int .i64 g.c], .agg #[.int .i64 T.p, .int .i64 T.q, .int .i64 T.r, .int .i64 T.s], .int .i64 0]) ∧ Below W.heap.size W w')
    (hc : ∀ W, Calls Try.prog 50 #[.agg #[.int .i64 g.a, .int .i64 g.b, .int .i64 g.c]] W fun e w' => ∃ v, e = .returned (.tuple #[v, .bool false]) ∧ w'.ownsRow W.heap.size 23 3 v N (rowOf l) ∧ Below W.heap.size W w') :
    Calls Try.prog 55 #[.agg #[.int .i64 f.a, .int .i64 f.b, .int .i64 f.c]] w fun e w' => ∃ v, e = .returned (.tuple #[v, .int .i64 0]) ∧ w'.ownsRow w.heap.size 23 3 v N (rowOf l) ∧ Below w.heap.size w w' := by
  obtain ⟨fa, fb, fc⟩ := f
  obtain ⟨ga, gb, gc⟩ := g
  obtain ⟨p, q, r, s⟩ := T
  simp only at hr hc ⊢
  go_enter Try.func55, Try.ntmps55
  go_wp2_with (first
    | (go_at_call 17; refine (hr _).mono ?_; rintro e w1 ⟨rfl, hb1⟩; obtain ⟨hc1, hf1⟩ := bcell hb1
       have hs1 := hb1.size
       simp only [World.size_alloc] at hs1)
    | (go_at_call 50; refine (hc _).mono ?_; rintro e w2 ⟨v2, rfl, ho2, hb2⟩
       have B2 := Lib.hid (And.intro ho2 hb2)
       clear ho2 hb2))
  go_ret2
  obtain ⟨ho2, hb2⟩ := B2.out
  refine ⟨_, rfl, own_base ho2 (by simp; omega), ?_⟩
  refine ((((Below.refl w.heap.size w).alloc (Nat.le_refl _) _).trans (hb1.mono (by simp))).alloc (by omega) _ |>.alloc (by simp; omega) _).trans (hb2.mono (by simp; omega))

end Go.Proofs.Ytljhbjkdifmonaa

/- slices.Index and slices.Contains of a list of forms; cycle.Proper. -/
namespace Go.Proofs.Ytljhbjkdifmonaa
open Go.RowKit Pq

/-- Where a form stands first; -1: nowhere. -/
def fidx (l : List Bin) (f : Bin) : Int := if f ∈ l then (l.idxOf f : Int) else -1
theorem fidx_nonneg (l : List Bin) (f : Bin) : decide (0 ≤ fidx l f) = decide (f ∈ l) := by
  unfold fidx; split <;> simp [*]

theorem below_drewN' {B : Nat} {a w : World} (h : Below B a w) (n : Nat) : Below B a (w.drewN n) := ⟨h.os, h.tape, h.output, h.size, h.block⟩

set_option maxRecDepth 100000 in
set_option maxHeartbeats 1000000 in
theorem index_any (l : List Bin) (f : Bin) (hlen : l.length ≤ 1000000) (w : World) (b1 : Nat) (u : Value) (h1 : w.ownsRow b1 23 3 u l.length (rowOf l)) :
    Calls Try.prog 88 #[u, .agg #[.int .i64 f.a, .int .i64 f.b, .int .i64 f.c]] w fun e w' => e = .returned (.int .i64 (fidx l f)) ∧ Below w.heap.size w w' := by
  obtain ⟨A, c, rfl⟩ := own_slice h1
  have H := Lib.hid (own_below h1 ((Below.refl w.heap.size w).alloc (Nat.le_refl _) (Obj.cells #[.int .i64 f.a, .int .i64 f.b, .int .i64 f.c] 23)))
  clear h1
  have hblk := Blk.new w 23 #[.int .i64 f.a, .int .i64 f.b, .int .i64 f.c]
  have HBL : Hid (Below w.heap.size w (w.alloc (Obj.cells #[.int .i64 f.a, .int .i64 f.b, .int .i64 f.c] 23))) := ((Below.refl w.heap.size w).alloc (Nat.le_refl _) _)
  generalize hn : l.length = n at *
  have HN := Lib.hid hn
  clear hn
  obtain ⟨v, hv⟩ : ∃ v, v = fidx l f := ⟨_, rfl⟩
  have HV := Lib.hid hv
  rw [← hv]
  clear hv
  go_enter Try.func88, Try.ntmps88
  go_wp2
  generalize hW : w.alloc (Obj.cells #[.int .i64 f.a, .int .i64 f.b, .int .i64 f.c] 23) = W at *
  clear hW
  go_loopw [8] (fun u wr => ∃ (t : Nat), u = .int .i64 t ∧ t ≤ n ∧ Hid (∀ j, j < t → nth l j ≠ f) ∧ ∃ m, wr = W.drewN m) (fun u _ => (n - intOf u).toNat)
  case atStart => exact ⟨0, rfl, by omega, (fun j hj => by omega), 0, rfl⟩
  case round =>
    obtain ⟨t, rfl, htn, hno, m, rfl⟩ := hrel
    by_cases hlt : t < n
    · have hn0 : 0 < n := by omega
      obtain ⟨g, hA, hg⟩ := own_at H.out hn0
      subst hA
      obtain ⟨x0, x1, x2⟩ := own_bin (HN.out.symm ▸ H.out) (k := t) (by rw [HN.out]; exact hlt)
      obtain ⟨y0, y1, y2⟩ := hblk.c3
      by_cases he : f = nth l t
      · have hne := fun W => eql23 W f (nth l t)
        rw [decide_eq_true he] at hne
        have HE := Lib.hid he
        clear he
        go_wp2
        go_quiet (fail)
        go_wp2
        go_ret
        refine ⟨ret_int ?_, below_drewN' (below_drewN' HBL.out _) _⟩
        have hm : f ∈ l := by rw [HE.out]; exact nth_mem (by rw [HN.out]; exact hlt)
        rw [HV.out]; unfold fidx; rw [if_pos hm]
        have h1 : l.idxOf f = t := by
          have hlt2 : l.idxOf f < l.length := List.idxOf_lt_length_of_mem hm
          have e1 : nth l (l.idxOf f) = f := by rw [nth_eq hlt2]; exact List.getElem_idxOf hlt2
          rcases Nat.lt_trichotomy (l.idxOf f) t with h | h | h
          · exact (hno.out _ h e1).elim
          · exact h
          · have h5 := List.not_of_lt_findIdx (p := (· == f)) (xs := l) (i := t) h
            have h6 : t < l.length := by rw [HN.out]; exact hlt
            rw [← nth_eq h6, ← HE.out] at h5
            simp at h5
        rw [h1]
      · have hne := fun W => eql23 W f (nth l t)
        rw [decide_eq_false he] at hne
        have HE := Lib.hid he
        clear he
        go_wp2
        go_quiet (fail)
        go_wp2
        go_roundw
        case rel => exact ⟨t + 1, by simp, by omega, (fun j hj => by rcases (show j < t ∨ j = t by omega) with h | rfl; exact hno.out j h; exact fun h => HE.out h.symm), m + nq, rfl⟩
        case measure => simp [intOf]; omega
    · go_wp2
      go_ret
      refine ⟨ret_int ?_, below_drewN' HBL.out _⟩
      have hm : f ∉ l := fun hm => by
        have hlt2 : l.idxOf f < l.length := List.idxOf_lt_length_of_mem hm
        have e1 : nth l (l.idxOf f) = f := by rw [nth_eq hlt2]; exact List.getElem_idxOf hlt2
        exact hno.out _ (by rw [HN.out] at hlt2; omega) e1
      rw [HV.out]; unfold fidx; rw [if_neg hm]

set_option maxRecDepth 100000 in
theorem contains_any (l : List Bin) (f : Bin) (hlen : l.length ≤ 1000000) (w : World) (b1 : Nat) (u : Value) (h1 : w.ownsRow b1 23 3 u l.length (rowOf l)) :
    Calls Try.prog 59 #[u, .agg #[.int .i64 f.a, .int .i64 f.b, .int .i64 f.c]] w fun e w' => e = .returned (.bool (decide (f ∈ l))) ∧ Below w.heap.size w w' := by
  have hi := index_any l f hlen _ b1 u (own_below h1 ((Below.refl w.heap.size w).alloc (Nat.le_refl _) (Obj.cells #[.int .i64 f.a, .int .i64 f.b, .int .i64 f.c] 23)))
  have hd := fidx_nonneg l f
  obtain ⟨A, c, rfl⟩ := own_slice h1
  clear h1
  generalize l.length = n at *
  generalize fidx l f = v at *
  generalize decide (f ∈ l) = b at *
  go_enter Try.func59, Try.ntmps59
  go_wp2_with (go_at_call 88; refine hi.mono ?_; rintro e w1 ⟨rfl, hb1⟩)
  go_ret
  exact ⟨ret_bool (by simp [hd]), ((Below.refl w.heap.size w).alloc (Nat.le_refl _) _).trans (hb1.mono (by simp))⟩

end Go.Proofs.Ytljhbjkdifmonaa

/- cycle.Proper, where both forms are let in and the cycle closes. -/
namespace Go.Proofs.Ytljhbjkdifmonaa
open Go.RowKit Pq

set_option maxRecDepth 100000 in
set_option maxHeartbeats 4000000 in
theorem proper_calls (f g x y : Bin) (T U : Trn) (l : List Bin) (N : Nat) (dx dy : Int) (w : World)
    (hrf : ∀ W, Calls Try.prog 17 #[.agg #[.int .i64 f.a, .int .i64 f.b, .int .i64 f.c]] W fun e w' => e = .returned (.tuple #[.agg #[.int .i64 x.a, .int .i64 x.b, .int .i64 x.c], .agg #[.int .i64 T.p, .int .i64 T.q, .int .i64 T.r, .int .i64 T.s], .int .i64 0]) ∧ Below W.heap.size W w')
    (hrg : ∀ W, Calls Try.prog 17 #[.agg #[.int .i64 g.a, .int .i64 g.b, .int .i64 g.c]] W fun e w' => e = .returned (.tuple #[.agg #[.int .i64 y.a, .int .i64 y.b, .int .i64 y.c], .agg #[.int .i64 U.p, .int .i64 U.q, .int .i64 U.r, .int .i64 U.s], .int .i64 0]) ∧ Below W.heap.size W w')
    (hdx : ∀ W, Calls Try.prog 57 #[.agg #[.int .i64 x.a, .int .i64 x.b, .int .i64 x.c]] W fun e w' => e = .returned (.int .i64 dx) ∧ Below W.heap.size W w')
    (hdy : ∀ W, Calls Try.prog 57 #[.agg #[.int .i64 y.a, .int .i64 y.b, .int .i64 y.c]] W fun e w' => e = .returned (.int .i64 dy) ∧ Below W.heap.size W w')
    (hc : dx = dy → ∀ W, Calls Try.prog 50 #[.agg #[.int .i64 x.a, .int .i64 x.b, .int .i64 x.c]] W fun e w' => ∃ v, e = .returned (.tuple #[v, .bool false]) ∧ w'.ownsRow W.heap.size 23 3 v N (rowOf l) ∧ Below W.heap.size W w')
    (hN : l.length = N) (hN2 : N ≤ 4096) :
    Calls Try.prog 18 #[.agg #[.int .i64 f.a, .int .i64 f.b, .int .i64 f.c], .agg #[.int .i64 g.a, .int .i64 g.b, .int .i64 g.c]] w fun e w' => e = .returned (.tuple #[.bool (decide (dx = dy ∧ y ∈ l)), .int .i64 0]) ∧ Below w.heap.size w w' := by
  obtain ⟨fa, fb, fc⟩ := f
  obtain ⟨ga, gb, gc⟩ := g
  obtain ⟨p, q, r, s⟩ := T
  obtain ⟨p', q', r', s'⟩ := U
  have HC := Lib.hid hc
  have HN := Lib.hid hN
  clear hc hN
  simp only at hrf hrg ⊢
  obtain ⟨B, hB⟩ : ∃ B, B = decide (dx = dy ∧ y ∈ l) := ⟨_, rfl⟩
  rw [← hB]
  have HBV := Lib.hid hB
  clear hB
  go_enter Try.func18, Try.ntmps18
  go_wp2_with (first
    | (go_at_call 17; (with_reducible refine (hrf _).mono ?_); rintro e w1 ⟨rfl, hb1⟩; obtain ⟨hc1, hf1⟩ := bcell hb1
       have hs1 : w.heap.size + 1 < w1.heap.size := by have := hb1.size; simp only [World.size_alloc] at this; omega
       have hs1' : w.heap.size < w1.heap.size := by omega)
    | (go_at_call 17; (with_reducible refine (hrg _).mono ?_); rintro e w2 ⟨rfl, hb2⟩; obtain ⟨hc2, hf2⟩ := bcell hb2
       have hs2 : w1.heap.size + 1 < w2.heap.size := by have := hb2.size; simp only [World.size_alloc] at this; omega
       have hs2' : w1.heap.size < w2.heap.size := by omega))
  have k6 := ((((Blk.new w1 23 #[.int .i64 x.a, .int .i64 x.b, .int .i64 x.c]).alloc (Obj.cells #[.int .i64 p, .int .i64 q, .int .i64 r, .int .i64 s] 35)).below' hb2).alloc (Obj.cells #[.int .i64 y.a, .int .i64 y.b, .int .i64 y.c] 23)).alloc (Obj.cells #[.int .i64 p', .int .i64 q', .int .i64 r', .int .i64 s'] 35)
  have k9 := (Blk.new w2 23 #[.int .i64 y.a, .int .i64 y.b, .int .i64 y.c]).alloc (Obj.cells #[.int .i64 p', .int .i64 q', .int .i64 r', .int .i64 s'] 35)
  have HB : Hid (Below w.heap.size w ((w2.alloc (Obj.cells #[.int .i64 y.a, .int .i64 y.b, .int .i64 y.c] 23)).alloc (Obj.cells #[.int .i64 p', .int .i64 q', .int .i64 r', .int .i64 s'] 35))) :=
    ((((((((Below.refl w.heap.size w).alloc (Nat.le_refl _) _).alloc (by simp) _).trans (hb1.mono (by simp; omega))).alloc (by omega) _).alloc (by simp; omega) _).trans (hb2.mono (by simp; omega))).alloc (by omega) _).alloc (by simp; omega) _
  clear hb1 hc1 hf1 hb2 hc2 hf2 hrf hrg
  generalize (w2.alloc (Obj.cells #[.int .i64 y.a, .int .i64 y.b, .int .i64 y.c] 23)).alloc (Obj.cells #[.int .i64 p', .int .i64 q', .int .i64 r', .int .i64 s'] 35) = W at *
  obtain ⟨c60, c61, c62⟩ := k6.c3
  obtain ⟨c90, c91, c92⟩ := k9.c3
  have l6 := k6.lt
  have l9 := k9.lt
  have hw0 : w.heap.size < w1.heap.size := by omega
  clear k6 k9
  generalize w1.heap.size = G6 at *
  generalize w2.heap.size = G9 at *
  go_cut [35] (fun u wc => u = .bool (dx != dy) ∧ wc.cell? ⟨G6, 0, none⟩ = some (.int .i64 x.a) ∧ wc.cell? ⟨G6, 1, none⟩ = some (.int .i64 x.b) ∧ wc.cell? ⟨G6, 2, none⟩ = some (.int .i64 x.c) ∧ wc.cell? ⟨G9, 0, none⟩ = some (.int .i64 y.a) ∧ wc.cell? ⟨G9, 1, none⟩ = some (.int .i64 y.b) ∧ wc.cell? ⟨G9, 2, none⟩ = some (.int .i64 y.c) ∧ Since W wc)
  case first =>
    go_region_held3 (fun wc => wc.cell? ⟨G6, 0, none⟩ = some (.int .i64 x.a) ∧ wc.cell? ⟨G6, 1, none⟩ = some (.int .i64 x.b) ∧ wc.cell? ⟨G6, 2, none⟩ = some (.int .i64 x.c) ∧ wc.cell? ⟨G9, 0, none⟩ = some (.int .i64 y.a) ∧ wc.cell? ⟨G9, 1, none⟩ = some (.int .i64 y.b) ∧ wc.cell? ⟨G9, 2, none⟩ = some (.int .i64 y.c) ∧ Since W wc)
      (first
        | exact ⟨c60, c61, c62, c90, c91, c92, Since.start W⟩
        | (go_split_ands
           exact (fun z => ⟨z.cell c60 l6, z.cell c61 l6, z.cell c62 l6, z.cell c90 l9, z.cell c91 l9, z.cell c92 l9, z⟩) (Since.step hb5 (by assumption))))
      (first
        | (go_at_call 57; (with_reducible refine (hdx _).mono ?_); rintro e w5 ⟨rfl, hb5⟩)
        | (go_at_call 57; (with_reducible refine (hdy _).mono ?_); rintro e w5 ⟨rfl, hb5⟩))
    go_split_ands
    go_wp2_with fail
    go_meet
    exact ⟨rfl, by assumption, by assumption, by assumption, by assumption, by assumption, by assumption, by assumption⟩
  case rest =>
    obtain ⟨rfl, e60, e61, e62, e90, e91, e92, hS⟩ := hcut
    clear c60 c61 c62 c90 c91 c92 hdx hdy
    have l9' : G9 < wc.heap.size := by have := hS.out.size; omega
    by_cases hdd : dx = dy
    · have hne : (dx != dy) = false := by simp [hdd]
      have hc := HC.out hdd
      have HD := Lib.hid hdd
      clear hdd
      have hcon := fun (W : World) (u : Value) (b1 : Nat) (ho : W.ownsRow b1 23 3 u N (rowOf l)) => contains_any l y (by rw [HN.out]; omega) W b1 u (by rw [HN.out]; exact ho)
      have hde : B = decide (y ∈ l) := by rw [HBV.out]; simp [HD.out]
      have HDE := Lib.hid hde
      clear hde
      generalize decide (y ∈ l) = b at *
      have HCON := Lib.hid hcon
      clear hcon
      go_wp2_with (first
        | (go_at_call 50; (with_reducible refine (hc _).mono ?_); rintro e w6 ⟨v6, rfl, ho6, hb6⟩
           obtain ⟨hc6, hf6⟩ := bcell hb6
           have hcon := HCON.out _ _ _ ho6
           have B6 := Lib.hid hb6
           clear ho6)
        | (go_at_call 59; (with_reducible refine hcon.mono ?_); rintro e w7 ⟨rfl, hb7⟩))
      all_goals
        go_ret2
        refine ⟨?_, (HB.out.trans (hS.out.mono HB.out.size)).trans ((B6.out.mono ?_).trans (hb7.mono ?_))⟩
        · rw [HDE.out, ‹b = _›]; rfl
        · have := HB.out.size; have := hS.out.size; omega
        · have := HB.out.size; have := hS.out.size; have := B6.out.size; omega
    · have hne : (dx != dy) = true := by simpa using hdd
      have HDD := Lib.hid hdd
      clear hdd
      go_wp2
      go_ret2
      exact ⟨by rw [HBV.out, decide_eq_false (fun h => HDD.out h.1)]; rfl, HB.out.trans (hS.out.mono HB.out.size)⟩

end Go.Proofs.Ytljhbjkdifmonaa

/- works of layer 9: the cycle of x^2 - 3 y^2. -/
namespace Go.Proofs.Ytljhbjkdifmonaa
open Go.RowKit Pq

theorem own_binM {w : World} {base g c n : Nat} {l : List Bin} (hn : l.length = n) (h : w.ownsRow base 23 3 (.slice (some ⟨g, 0, none⟩) n c) n (rowOf l)) {k : Nat} (hk : k < n) :
    w.cell? ⟨g, k * 3, none⟩ = some (.int .i64 (nth l k).a) ∧ w.cell? ⟨g, k * 3 + 1, none⟩ = some (.int .i64 (nth l k).b) ∧ w.cell? ⟨g, k * 3 + 2, none⟩ = some (.int .i64 (nth l k).c) := by
  subst hn; exact own_bin h hk
theorem cross12 : Cross 12 3 := (crossB_true (d := 12) (by decide +kernel)).1
theorem F12 (x : Bin) (hx : Within 1073741824 x) (hd : x.disc = 12) : (∀ k, It 12 3 (k + 1) x = nxt 12 3 (It 12 3 k x)) ∧ ∀ k, Within 1073741824 (It 12 3 k x) ∧ (It 12 3 k x).disc = 12 :=
  ⟨fun k => It_succ' 12 3 k x, fun k => ⟨It_within cross12 (by decide) k hd hx, It_disc cross12 k hd⟩⟩
theorem red_w1 (W : World) : Calls Try.prog 17 #[.agg #[.int .i64 1, .int .i64 0, .int .i64 (-3)]] W fun e w' => e = .returned (.tuple #[.agg #[.int .i64 1, .int .i64 2, .int .i64 (-2)], .agg #[.int .i64 (TIt 12 3 ⟨1, 0, -3⟩ 2).p, .int .i64 (TIt 12 3 ⟨1, 0, -3⟩ 2).q, .int .i64 (TIt 12 3 ⟨1, 0, -3⟩ 2).r, .int .i64 (TIt 12 3 ⟨1, 0, -3⟩ 2).s], .int .i64 0]) ∧ Below W.heap.size W w' :=
  reduce_ok ⟨1, 0, -3⟩ 2 W 3 (by decide +kernel) (by decide +kernel) (by decide +kernel) (by decide +kernel)
theorem red_w2 (W : World) : Calls Try.prog 17 #[.agg #[.int .i64 (-1), .int .i64 0, .int .i64 3]] W fun e w' => e = .returned (.tuple #[.agg #[.int .i64 (-1), .int .i64 2, .int .i64 2], .agg #[.int .i64 (TIt 12 3 ⟨-1, 0, 3⟩ 2).p, .int .i64 (TIt 12 3 ⟨-1, 0, 3⟩ 2).q, .int .i64 (TIt 12 3 ⟨-1, 0, 3⟩ 2).r, .int .i64 (TIt 12 3 ⟨-1, 0, 3⟩ 2).s], .int .i64 0]) ∧ Below W.heap.size W w' :=
  reduce_ok ⟨-1, 0, 3⟩ 2 W 3 (by decide +kernel) (by decide +kernel) (by decide +kernel) (by decide +kernel)
theorem round_w (W : World) : Calls Try.prog 50 #[.agg #[.int .i64 1, .int .i64 2, .int .i64 (-2)]] W fun e w' => ∃ v, e = .returned (.tuple #[v, .bool false]) ∧ w'.ownsRow W.heap.size 23 3 v 2 (rowOf [⟨1, 2, -2⟩, ⟨-2, 2, 1⟩]) ∧ Below W.heap.size W w' :=
  round_closes (fun k => It 12 3 k ⟨1, 2, -2⟩) 12 3 2 W (F12 _ (inB_true (by decide +kernel)) (by decide +kernel)).1 (F12 _ (inB_true (by decide +kernel)) (by decide +kernel)).2 cross12 (by decide) (by decide) (by decide) (by decide +kernel) (fun k h1 h2 => by
    obtain rfl : k = 1 := by omega
    decide +kernel)
theorem cycle_w (w : World) : Calls Try.prog 55 #[.agg #[.int .i64 1, .int .i64 0, .int .i64 (-3)]] w fun e w' => ∃ v, e = .returned (.tuple #[v, .int .i64 0]) ∧ w'.ownsRow w.heap.size 23 3 v 2 (rowOf [⟨1, 2, -2⟩, ⟨-2, 2, 1⟩]) ∧ Below w.heap.size w w' :=
  cycle_calls ⟨1, 0, -3⟩ ⟨1, 2, -2⟩ (TIt 12 3 ⟨1, 0, -3⟩ 2) [⟨1, 2, -2⟩, ⟨-2, 2, 1⟩] 2 w red_w1 round_w
theorem proper_w (w : World) : Calls Try.prog 18 #[.agg #[.int .i64 1, .int .i64 0, .int .i64 (-3)], .agg #[.int .i64 (-1), .int .i64 0, .int .i64 3]] w fun e w' => e = .returned (.tuple #[.bool false, .int .i64 0]) ∧ Below w.heap.size w w' := by
  have h := proper_calls ⟨1, 0, -3⟩ ⟨-1, 0, 3⟩ ⟨1, 2, -2⟩ ⟨-1, 2, 2⟩ (TIt 12 3 ⟨1, 0, -3⟩ 2) (TIt 12 3 ⟨-1, 0, 3⟩ 2) [⟨1, 2, -2⟩, ⟨-2, 2, 1⟩] 2 12 12 w red_w1 red_w2 (fun W => discf_any ⟨1, 2, -2⟩ W (inB_true (by decide +kernel))) (fun W => discf_any ⟨-1, 2, 2⟩ W (inB_true (by decide +kernel))) (fun _ => round_w) rfl (by decide)
  rwa [decide_eq_false (show ¬ ((12 : Int) = 12 ∧ (⟨-1, 2, 2⟩ : Bin) ∈ [(⟨1, 2, -2⟩ : Bin), ⟨-2, 2, 1⟩]) by decide +kernel)] at h

theorem eqw1 (w : World) : (binOp .eql 23 (.agg #[.int .i64 (-2), .int .i64 0, .int .i64 1]) (.agg #[.int .i64 (-2), .int .i64 0, .int .i64 1])).run Try.prog w = .ok (.bool true) w := by kernel_rfl
theorem eqw2 (w : World) : (binOp .eql 35 (.agg #[.int .i64 0, .int .i64 (-1), .int .i64 1, .int .i64 0]) (.agg #[.int .i64 0, .int .i64 (-1), .int .i64 1, .int .i64 0])).run Try.prog w = .ok (.bool true) w := by kernel_rfl
theorem eqw3 (w : World) : (binOp .eql 23 (.agg #[.int .i64 1, .int .i64 2, .int .i64 (-2)]) (.agg #[.int .i64 1, .int .i64 2, .int .i64 (-2)])).run Try.prog w = .ok (.bool true) w := by kernel_rfl
theorem eqw4 (w : World) : (binOp .eql 23 (.agg #[.int .i64 (-2), .int .i64 2, .int .i64 1]) (.agg #[.int .i64 (-2), .int .i64 2, .int .i64 1])).run Try.prog w = .ok (.bool true) w := by kernel_rfl

set_option maxRecDepth 100000 in
set_option maxHeartbeats 4000000 in
theorem works9 (w : World) : Calls Try.prog 15 #[] w fun e w' => e = .returned (.bool true) ∧ Below w.heap.size w w' := by
  have q1 := fun W => eqw1 W
  have q2 := fun W => eqw2 W
  have q3 := fun W => eqw3 W
  have q4 := fun W => eqw4 W
  go_enter Try.func15, Try.ntmps15
  go_wp2_with (first
    | (go_at_call 55; (with_reducible refine (cycle_w _).mono ?_); rintro e w1 ⟨v1, rfl, ho1, hb1⟩
       obtain ⟨A1, c1, rfl⟩ := own_slice ho1
       obtain ⟨g1, hA1, hg1, hg1'⟩ := own_at ho1 (by decide)
       subst hA1
       obtain ⟨x0, x1, x2⟩ := own_binM (l := [⟨1, 2, -2⟩, ⟨-2, 2, 1⟩]) rfl ho1 (k := 0) (by decide)
       obtain ⟨y0, y1, y2⟩ := own_binM (l := [⟨1, 2, -2⟩, ⟨-2, 2, 1⟩]) rfl ho1 (k := 1) (by decide)
       have X := Lib.hid (And.intro x0 (And.intro x1 (And.intro x2 (And.intro y0 (And.intro y1 y2)))))
       have B1 := Lib.hid hb1
       clear ho1 hb1 x0 x1 x2 y0 y1 y2)
    | (go_at_call 18; (with_reducible refine (proper_w _).mono ?_); rintro e w2 ⟨rfl, hb2⟩)
    | (go_at_call 56; (with_reducible refine (next_w _).mono ?_); rintro e w3 ⟨rfl, hb3⟩
       obtain ⟨x0, x1, x2, y0, y1, y2⟩ := X.out
       have hb23 := hb2.trans (hb3.mono hb2.size)
       have z0 := (hb23.cell (p := ⟨g1, 0, none⟩) hg1').trans x0
       have z1 := (hb23.cell (p := ⟨g1, 1, none⟩) hg1').trans x1
       have z2 := (hb23.cell (p := ⟨g1, 2, none⟩) hg1').trans x2
       have z3 := (hb23.cell (p := ⟨g1, 3, none⟩) hg1').trans y0
       have z4 := (hb23.cell (p := ⟨g1, 4, none⟩) hg1').trans y1
       have z5 := (hb23.cell (p := ⟨g1, 5, none⟩) hg1').trans y2
       have hs3 : g1 < w3.heap.size := by have := hb23.size; omega
       have B3 := Lib.hid hb23
       clear hb2 hb3 hb23 x0 x1 x2 y0 y1 y2 X))
  go_ret
  exact ⟨rfl, ((B1.out.trans (B3.out.mono B1.out.size)).alloc (Nat.le_trans B1.out.size B3.out.size) _).alloc (by have := B1.out.size; have := B3.out.size; simp; omega) _⟩

end Go.Proofs.Ytljhbjkdifmonaa

/- The law CycleLists, walked. -/
namespace Go.Proofs.Ytljhbjkdifmonaa
open Go.RowKit Pq

/-- A store into an own row leaves it an own row. -/
theorem own_store {w : World} {base : Nat} {e : TypeId} {size n g c : Nat} {xs : List Value} (h : w.ownsRow base e size (.slice (some ⟨g, 0, none⟩) n c) n xs) (j : Nat) (u : Value) :
    ∃ ys, (w.setCell ⟨g, j, none⟩ u).ownsRow base e size (.slice (some ⟨g, 0, none⟩) n c) n ys := by
  obtain ⟨hl, hr⟩ := h
  rcases hr with ⟨h1, _⟩ | ⟨g', cap, cur, h1, hb, hg, hc1, hc2, hc3, hc4⟩
  · simp at h1
  · simp only [Value.slice.injEq, Option.some.injEq, Addr.mk.injEq] at h1
    obtain ⟨⟨rfl, _, _⟩, _, rfl⟩ := h1
    have hk : Blk (w.setCell ⟨g, j, none⟩ u) g e (cur.setIfInBounds j u) := Blk.set_ (cs := cur) hg j u
    refine ⟨(cur.setIfInBounds j u).toList.take (n * size), ?_, .inr ⟨g, c, cur.setIfInBounds j u, rfl, hb, hk, hc1, hc2, by simpa using hc3, rfl⟩⟩
    rw [List.length_take]
    have : n * size ≤ c * size := Nat.mul_le_mul_right _ hc1
    simp; omega
theorem own_store3 {w : World} {base : Nat} {e : TypeId} {size n g c : Nat} {xs : List Value} (h : w.ownsRow base e size (.slice (some ⟨g, 0, none⟩) n c) n xs) (i j k : Nat) (u v x : Value) :
    ∃ ys, (((w.setCell ⟨g, i, none⟩ u).setCell ⟨g, j, none⟩ v).setCell ⟨g, k, none⟩ x).ownsRow base e size (.slice (some ⟨g, 0, none⟩) n c) n ys := by
  obtain ⟨_, h1⟩ := own_store h i u
  obtain ⟨_, h2⟩ := own_store h1 j v
  exact own_store h2 k x

/-- What is still to be read of the first list's rows, from i on. -/
def RowsFrom (w : World) (b1 : Nat) (vs : List Value) (LL : List (List Bin)) (i : Nat) : Prop :=
  ∀ (j : Nat) (u : Value) (l : List Bin), i ≤ j → vs[j]? = some u → LL[j]? = some l → w.ownsRow b1 23 3 u l.length (rowOf l)
theorem RowsFrom.grown {w w' : World} {b1 : Nat} {vs : List Value} {LL : List (List Bin)} {i i' : Nat} (h : RowsFrom w b1 vs LL i) {row : Option Nat} (hg : w.grownBy w' row) (hi : i ≤ i')
    (hne : ∀ (j : Nat) (u : Value), i' ≤ j → vs[j]? = some u → u.ownBlock = none ∨ u.ownBlock ≠ row) : RowsFrom w' b1 vs LL i' := fun j u l hj hu hl =>
  (h j u l (by omega) hu hl).kept hg (hne j u hj hu)

/-- All that the law's first loop knows at its i-th round. -/
structure LawAt (b1 b2 b3 : Nat) (V : Value) (vs : List Value) (vk vm : Value) (LL : List (List Bin)) (w0 : World) (i : Nat) (w : World) : Prop where
  out : w.ownsRow b1 32 1 V LL.length vs
  rows : RowsFrom w b1 vs LL i
  k : OwnLL w b2 vk LL
  m : OwnLL w b3 vm LL
  b : Below w0.heap.size w0 w
  h1 : w0.heap.size ≤ b1
  h2 : b1 ≤ b2
  h3 : b2 ≤ b3
  hb3 : b3 ≤ w.heap.size
  apart : ∀ (i j : Nat) (u u' : Value) (b : Nat), i < j → vs[i]? = some u → vs[j]? = some u' → u.ownBlock = some b → u'.ownBlock ≠ some b
  lt : ∀ (j : Nat) (u : Value) (b : Nat), vs[j]? = some u → u.ownBlock = some b → b < b2
  ge : ∀ (j : Nat) (u : Value) (b : Nat), vs[j]? = some u → u.ownBlock = some b → b1 ≤ b
  outer : ∀ b, V.ownBlock = some b → b < b2
  ne : ∀ (j : Nat) (u : Value), vs[j]? = some u → V.ownBlock = none ∨ V.ownBlock ≠ u.ownBlock

theorem LawAt.grown {b1 b2 b3 : Nat} {V : Value} {vs : List Value} {vk vm : Value} {LL : List (List Bin)} {w0 w w' : World} {i i' : Nat} (h : LawAt b1 b2 b3 V vs vk vm LL w0 i w) {row : Option Nat} (hg : w.grownBy w' row) (hi : i ≤ i')
    (hr : ∀ b, row = some b → ∃ (j : Nat) (u : Value), j < i' ∧ vs[j]? = some u ∧ u.ownBlock = some b) : LawAt b1 b2 b3 V vs vk vm LL w0 i' w' := by
  have hlt : ∀ b, row = some b → b < b2 := fun b hb => by obtain ⟨j, u, _, hu, ho⟩ := hr b hb; exact h.lt j u b hu ho
  refine { h with out := h.out.kept hg ?_, rows := h.rows.grown hg hi ?_, k := h.k.grown hg hlt, m := h.m.grown hg (fun b hb => Nat.lt_of_lt_of_le (hlt b hb) h.h3), b := h.b.grown hg ?_ ?_, hb3 := Nat.le_trans h.hb3 hg.size }
  · cases hrow : row with
    | none => cases hV : V.ownBlock with
      | none => exact .inl rfl
      | some _ => exact .inr (by simp)
    | some b =>
      obtain ⟨j, u, _, hu, ho⟩ := hr b hrow
      have := h.ne j u hu
      rwa [ho] at this
  · intro j u hj hu
    cases hrow : row with
    | none => cases hV : u.ownBlock with
      | none => exact .inl rfl
      | some _ => exact .inr (by simp)
    | some b =>
      obtain ⟨j', u', hj', hu', ho⟩ := hr b hrow
      exact .inr (h.apart j' j u' u b (by omega) hu' hu ho)
  · exact Nat.le_trans h.h1 (Nat.le_trans h.h2 (Nat.le_trans h.h3 h.hb3))
  · intro b hb
    obtain ⟨j, u, _, hu, ho⟩ := hr b hb
    exact Nat.le_trans h.h1 (h.ge j u b hu ho)

end Go.Proofs.Ytljhbjkdifmonaa

/- The law CycleLists where the number is let in: what the loops know. -/
namespace Go.Proofs.Ytljhbjkdifmonaa
open Go.RowKit Pq

theorem per_le (d s : Int) (f : Bin) : per d s f ≤ 4096 := by
  unfold per
  split
  · rename_i h; exact (Classical.choose_spec h).2.1
  · omega
theorem outTo_rows (d s : Int) (l : List Bin) : ∀ i, ∀ r ∈ outTo d s l i, r.length ≤ 4096 := by
  intro i
  induction i with
  | zero => intro r hr; simp [outTo] at hr
  | succ i ih =>
    intro r hr
    rw [outTo] at hr
    split at hr
    · exact ih r hr
    · rcases List.mem_append.1 hr with h | h
      · exact ih r h
      · simp at h; subst h; simp [cy, cyc]; exact per_le _ _ _
theorem listR_len {d s : Int} (h : Cross d s) (hs : s ≤ 255) : (listR d s (2 * s + 1).toNat).length ≤ 4000 :=
  red_few h hs _ ((sorted_listR d s _).imp fun {a b} hab he => by subst he; exact Lt.irrefl _ hab) fun f hf => by
    have := (mem_listR (by have := h.spos; omega) h).1 hf
    exact ⟨this.1, this.2.1⟩

theorem LawAt.start {w0 w2 w6 : World} {b1 b3 : Nat} {V vk vm : Value} {LL : List (List Bin)} (hl : OwnLL w2 b1 V LL) (hb26 : Below w2.heap.size w2 w6) (hk : OwnLL w6 w2.heap.size vk LL) (hm : OwnLL w6 b3 vm LL)
    (hB : Below w0.heap.size w0 w6) (h1 : w0.heap.size ≤ b1) (h2 : b1 ≤ w2.heap.size) (h3 : w2.heap.size ≤ b3) (h4 : b3 ≤ w6.heap.size) : ∃ vs, LawAt b1 w2.heap.size b3 V vs vk vm LL w0 0 w6 := by
  obtain ⟨vs, l1, l2, l3⟩ := hl
  have hlen : vs.length = LL.length := by have := l1.1; omega
  have row : ∀ (j : Nat) (u : Value), vs[j]? = some u → ∃ l, LL[j]? = some l := fun j u hu => by
    have := (List.getElem?_eq_some_iff.1 hu).1
    exact ⟨_, List.getElem?_eq_getElem (by omega)⟩
  refine ⟨vs, own_below l1 hb26, fun j u l _ hu hl => own_below (l2 j u l hu hl) hb26, hk, hm, hB, h1, h2, h3, h4, l3, fun j u b hu hb => ?_, fun j u b hu hb => ?_, fun b hb => (l1.lt b hb).2, fun j u hu => ?_⟩
  · obtain ⟨l, hl⟩ := row j u hu
    exact ((l2 j u l hu hl).lt b hb).2
  · obtain ⟨l, hl⟩ := row j u hu
    exact ((l2 j u l hu hl).lt b hb).1
  · obtain ⟨l, hl⟩ := row j u hu
    exact own_ne_type l1 (l2 j u l hu hl) (by decide)

/-- A row's own value lies in its cell. -/
theorem LawAt.cell {b1 b2 b3 : Nat} {g c n : Nat} {vs : List Value} {vk vm : Value} {LL : List (List Bin)} {w0 w : World} {i k : Nat} (hn : LL.length = n) (h : LawAt b1 b2 b3 (.slice (some ⟨g, 0, none⟩) n c) vs vk vm LL w0 i w) {u : Value} (hu : vs[k]? = some u) : w.cell? ⟨g, k, none⟩ = some u := by
  subst hn
  have ho := h.out
  have hl := own_len ho
  have hk := (List.getElem?_eq_some_iff.1 hu).1
  rw [ho.cellAt k (by omega)]; exact hu

/-- The rows of an owned list of lists: where it lies, and each row. -/
theorem OwnLL.at {w : World} {base : Nat} {v : Value} {LL : List (List Bin)} (h : OwnLL w base v LL) {i : Nat} (hi : i < LL.length) : ∃ g c u, v = .slice (some ⟨g, 0, none⟩) LL.length c ∧ g < w.heap.size ∧ w.cell? ⟨g, i, none⟩ = some u ∧ w.ownsRow base 23 3 u LL[i].length (rowOf LL[i]) := by
  obtain ⟨vs, l1, l2, _⟩ := h
  have hlen : vs.length = LL.length := by have := l1.1; omega
  obtain ⟨A, c, rfl⟩ := own_slice l1
  obtain ⟨g, rfl, _, hg⟩ := own_at l1 (by omega)
  have hu : vs[i]? = some vs[i] := List.getElem?_eq_getElem (by omega)
  refine ⟨g, c, vs[i], rfl, hg, ?_, l2 i _ _ hu (List.getElem?_eq_getElem hi)⟩
  rw [l1.cellAt i (by omega)]; exact hu
theorem OwnLL.len {w : World} {base : Nat} {v : Value} {LL : List (List Bin)} (h : OwnLL w base v LL) : ∃ A c, v = .slice A LL.length c := by
  obtain ⟨vs, l1, _⟩ := h; exact own_slice l1

theorem OwnLL.at' {w : World} {base : Nat} {A : Option Addr} {n c : Nat} {LL : List (List Bin)} (hn : LL.length = n) (h : OwnLL w base (.slice A n c) LL) {i : Nat} {l : List Bin} (hl : LL[i]? = some l) : ∃ g u, A = some ⟨g, 0, none⟩ ∧ g < w.heap.size ∧ w.cell? ⟨g, i, none⟩ = some u ∧ w.ownsRow base 23 3 u l.length (rowOf l) := by
  subst hn
  have hi := (List.getElem?_eq_some_iff.1 hl).1
  obtain ⟨vs, l1, l2, _⟩ := h
  have hlen : vs.length = LL.length := by have := l1.1; omega
  obtain ⟨g, rfl, _, hg⟩ := own_at l1 (by omega)
  have hu : vs[i]? = some vs[i] := List.getElem?_eq_getElem (by omega)
  refine ⟨g, vs[i], rfl, hg, ?_, l2 i _ _ hu hl⟩
  rw [l1.cellAt i (by omega)]; exact hu
/-- The cells of an own row are there and may be written. -/
theorem own_cells {w : World} {base g n c : Nat} {xs : List Value} (h : w.ownsRow base 23 3 (.slice (some ⟨g, 0, none⟩) n c) n xs) {j : Nat} (hj : j < n) : (∃ x y z, w.cell? ⟨g, j * 3, none⟩ = some x ∧ w.cell? ⟨g, j * 3 + 1, none⟩ = some y ∧ w.cell? ⟨g, j * 3 + 2, none⟩ = some z) ∧ ∀ i, w.frozen? ⟨g, i, none⟩ = false := by
  have hl := own_len h
  refine ⟨⟨xs[j * 3]'(by omega), xs[j * 3 + 1]'(by omega), xs[j * 3 + 2]'(by omega), ?_, ?_, ?_⟩, ?_⟩
  · rw [h.cellAt (j * 3) (by omega)]; exact List.getElem?_eq_getElem _
  · rw [h.cellAt (j * 3 + 1) (by omega)]; exact List.getElem?_eq_getElem _
  · rw [h.cellAt (j * 3 + 2) (by omega)]; exact List.getElem?_eq_getElem _
  · obtain ⟨_, hr⟩ := h
    rcases hr with ⟨h1, _⟩ | ⟨g', cap, cur, h1, hb, hg, _⟩
    · simp at h1
    · simp only [Value.slice.injEq, Option.some.injEq, Addr.mk.injEq] at h1
      obtain ⟨⟨rfl, _, _⟩, _, rfl⟩ := h1
      exact fun i => Blk.frozen (cs := cur) hg i

theorem same_at {w : World} {b b' : Nat} {u v : Value} {l : List Bin} (hu : w.ownsRow b 23 3 u l.length (rowOf l)) (hv : w.ownsRow b' 23 3 v l.length (rowOf l)) (hl : l.length ≤ 4096) (n : Nat) :
    Calls Try.prog 16 #[u, v] (w.drewN n) fun e w'' => e = .returned (.bool true) ∧ ∃ m, w'' = w.drewN m :=
  Calls.quiet_of (same_any l (by omega) (w.drewN n) b b' u v (own_below hu (below_drewN (Below.refl _ _) n)) (own_below hv (below_drewN (Below.refl _ _) n)))

end Go.Proofs.Ytljhbjkdifmonaa

/- The law CycleKnown: the chapter's examples. -/
namespace Go.Proofs.Ytljhbjkdifmonaa
open Go.RowKit Pq

theorem per_eq {d s : Int} (h : Cross d s) (hs : s ≤ 255) {f : Bin} (hf : f.disc = d) (hr : Red s f) {N : Nat} (h0 : 0 < N) (h1 : It d s N f = f) (h2 : ∀ k, 0 < k → k < N → It d s k f ≠ f) : per d s f = N := by
  obtain ⟨p0, _, p2, p3⟩ := per_spec h hs hf hr
  rcases Nat.lt_trichotomy (per d s f) N with hlt | he | hlt
  · exact (h2 _ p0 hlt p2).elim
  · exact he
  · exact (p3 N h0 hlt h1).elim
theorem cy12 (f : Bin) (hf : f.disc = 12) (hr : Red 3 f) (h1 : It 12 3 2 f = f) (h2 : It 12 3 1 f ≠ f) : cy 12 3 f = [f, It 12 3 1 f] := by
  unfold cy
  rw [per_eq cross12 (by decide) hf hr (N := 2) (by decide) h1 (fun k h3 h4 => by obtain rfl : k = 1 := (by omega); exact h2)]
  rfl
theorem list12 : listR 12 3 (2 * (3 : Int) + 1).toNat = [⟨-2, 2, 1⟩, ⟨-1, 2, 2⟩, ⟨1, 2, -2⟩, ⟨2, 2, -1⟩] := by decide +kernel
theorem cyA : cy 12 3 ⟨-2, 2, 1⟩ = [⟨-2, 2, 1⟩, ⟨1, 2, -2⟩] := by
  rw [cy12 ⟨-2, 2, 1⟩ (by decide +kernel) (by decide +kernel) (by decide +kernel) (by decide +kernel)]
  decide +kernel
theorem cyB : cy 12 3 ⟨-1, 2, 2⟩ = [⟨-1, 2, 2⟩, ⟨2, 2, -1⟩] := by
  rw [cy12 ⟨-1, 2, 2⟩ (by decide +kernel) (by decide +kernel) (by decide +kernel) (by decide +kernel)]
  decide +kernel
theorem all12 : outTo 12 3 (listR 12 3 (2 * (3 : Int) + 1).toNat) (listR 12 3 (2 * (3 : Int) + 1).toNat).length = [[⟨-2, 2, 1⟩, ⟨1, 2, -2⟩], [⟨-1, 2, 2⟩, ⟨2, 2, -1⟩]] := by
  rw [list12]
  have o1 : outTo 12 3 [⟨-2, 2, 1⟩, ⟨-1, 2, 2⟩, ⟨1, 2, -2⟩, ⟨2, 2, -1⟩] 1 = [[⟨-2, 2, 1⟩, ⟨1, 2, -2⟩]] := by
    rw [outTo_new 0 (by simp [outTo])]
    show [] ++ [cy 12 3 ⟨-2, 2, 1⟩] = _
    rw [cyA]; rfl
  have o2 : outTo 12 3 [⟨-2, 2, 1⟩, ⟨-1, 2, 2⟩, ⟨1, 2, -2⟩, ⟨2, 2, -1⟩] 2 = [[⟨-2, 2, 1⟩, ⟨1, 2, -2⟩], [⟨-1, 2, 2⟩, ⟨2, 2, -1⟩]] := by
    rw [outTo_new 1 (by rw [o1]; decide +kernel), o1]
    show [[_, _]] ++ [cy 12 3 ⟨-1, 2, 2⟩] = _
    rw [cyB]; rfl
  have o3 := outTo_mem (d := 12) (s := 3) (l := [⟨-2, 2, 1⟩, ⟨-1, 2, 2⟩, ⟨1, 2, -2⟩, ⟨2, 2, -1⟩]) 2 (by rw [o2]; decide +kernel)
  have o4 := outTo_mem (d := 12) (s := 3) (l := [⟨-2, 2, 1⟩, ⟨-1, 2, 2⟩, ⟨1, 2, -2⟩, ⟨2, 2, -1⟩]) 3 (by rw [o3, o2]; decide +kernel)
  show outTo 12 3 _ 4 = _
  rw [o4, o3, o2]

theorem cross8 : Cross 8 2 := (crossB_true (d := 8) (by decide +kernel)).1
theorem F8 (x : Bin) (hx : Within 1073741824 x) (hd : x.disc = 8) : (∀ k, It 8 2 (k + 1) x = nxt 8 2 (It 8 2 k x)) ∧ ∀ k, Within 1073741824 (It 8 2 k x) ∧ (It 8 2 k x).disc = 8 :=
  ⟨fun k => It_succ' 8 2 k x, fun k => ⟨It_within cross8 (by decide) k hd hx, It_disc cross8 k hd⟩⟩
theorem red_k1 (W : World) : Calls Try.prog 17 #[.agg #[.int .i64 1, .int .i64 0, .int .i64 (-2)]] W fun e w' => e = .returned (.tuple #[.agg #[.int .i64 1, .int .i64 2, .int .i64 (-1)], .agg #[.int .i64 (-1), .int .i64 (-1), .int .i64 0, .int .i64 (-1)], .int .i64 0]) ∧ Below W.heap.size W w' := by
  have h := reduce_ok ⟨1, 0, -2⟩ 2 W 2 (by decide +kernel) (by decide +kernel) (by decide +kernel) (by decide +kernel)
  have e : TIt 8 2 ⟨1, 0, -2⟩ 2 = ⟨-1, -1, 0, -1⟩ := by decide +kernel
  have e2 : (⟨1, 0, -2⟩ : Bin).disc = 8 := by decide +kernel
  rw [e2, e] at h
  exact h
theorem red_k2 (W : World) : Calls Try.prog 17 #[.agg #[.int .i64 (-1), .int .i64 0, .int .i64 2]] W fun e w' => e = .returned (.tuple #[.agg #[.int .i64 (-1), .int .i64 2, .int .i64 1], .agg #[.int .i64 (TIt 8 2 ⟨-1, 0, 2⟩ 2).p, .int .i64 (TIt 8 2 ⟨-1, 0, 2⟩ 2).q, .int .i64 (TIt 8 2 ⟨-1, 0, 2⟩ 2).r, .int .i64 (TIt 8 2 ⟨-1, 0, 2⟩ 2).s], .int .i64 0]) ∧ Below W.heap.size W w' :=
  reduce_ok ⟨-1, 0, 2⟩ 2 W 2 (by decide +kernel) (by decide +kernel) (by decide +kernel) (by decide +kernel)
theorem round_k (W : World) : Calls Try.prog 50 #[.agg #[.int .i64 1, .int .i64 2, .int .i64 (-1)]] W fun e w' => ∃ v, e = .returned (.tuple #[v, .bool false]) ∧ w'.ownsRow W.heap.size 23 3 v 2 (rowOf [⟨1, 2, -1⟩, ⟨-1, 2, 1⟩]) ∧ Below W.heap.size W w' :=
  round_closes (fun k => It 8 2 k ⟨1, 2, -1⟩) 8 2 2 W (F8 _ (inB_true (by decide +kernel)) (by decide +kernel)).1 (F8 _ (inB_true (by decide +kernel)) (by decide +kernel)).2 cross8 (by decide) (by decide) (by decide) (by decide +kernel) (fun k h1 h2 => by
    obtain rfl : k = 1 := by omega
    decide +kernel)
theorem proper_k (w : World) : Calls Try.prog 18 #[.agg #[.int .i64 1, .int .i64 0, .int .i64 (-2)], .agg #[.int .i64 (-1), .int .i64 0, .int .i64 2]] w fun e w' => e = .returned (.tuple #[.bool true, .int .i64 0]) ∧ Below w.heap.size w w' := by
  have h := proper_calls ⟨1, 0, -2⟩ ⟨-1, 0, 2⟩ ⟨1, 2, -1⟩ ⟨-1, 2, 1⟩ ⟨-1, -1, 0, -1⟩ (TIt 8 2 ⟨-1, 0, 2⟩ 2) [⟨1, 2, -1⟩, ⟨-1, 2, 1⟩] 2 8 8 w red_k1 red_k2 (fun W => discf_any ⟨1, 2, -1⟩ W (inB_true (by decide +kernel))) (fun W => discf_any ⟨-1, 2, 1⟩ W (inB_true (by decide +kernel))) (fun _ => round_k) rfl (by decide)
  rwa [decide_eq_true (show (8 : Int) = 8 ∧ (⟨-1, 2, 1⟩ : Bin) ∈ [(⟨1, 2, -1⟩ : Bin), ⟨-1, 2, 1⟩] by decide +kernel)] at h

theorem chk1 (W : World) : Calls Try.prog 19 #[.agg #[.int .i64 1, .int .i64 0, .int .i64 (-4)]] W fun e w' => e = .returned (.int .i64 80) ∧ Below W.heap.size W w' := by
  have h := check_any ⟨1, 0, -4⟩ W
  rwa [show chk ⟨1, 0, -4⟩ = 80 by decide +kernel] at h
theorem chk2 (W : World) : Calls Try.prog 19 #[.agg #[.int .i64 1, .int .i64 0, .int .i64 1]] W fun e w' => e = .returned (.int .i64 80) ∧ Below W.heap.size W w' := by
  have h := check_any ⟨1, 0, 1⟩ W
  rwa [show chk ⟨1, 0, 1⟩ = 80 by decide +kernel] at h
theorem chk3 (W : World) : Calls Try.prog 19 #[.agg #[.int .i64 1, .int .i64 0, .int .i64 0]] W fun e w' => e = .returned (.int .i64 80) ∧ Below W.heap.size W w' := by
  have h := check_any ⟨1, 0, 0⟩ W
  rwa [show chk ⟨1, 0, 0⟩ = 80 by decide +kernel] at h
theorem chk4 (W : World) : Calls Try.prog 19 #[.agg #[.int .i64 1073741825, .int .i64 0, .int .i64 (-2)]] W fun e w' => e = .returned (.int .i64 3) ∧ Below W.heap.size W w' := by
  have h := check_any ⟨1073741825, 0, -2⟩ W
  rwa [show chk ⟨1073741825, 0, -2⟩ = 3 by decide +kernel] at h
theorem princ12 (W : World) : Calls Try.prog 11 #[.int .i64 12] W fun e w' => e = .returned (.tuple #[.agg #[.int .i64 1, .int .i64 2, .int .i64 (-2)], .int .i64 0]) ∧ Below W.heap.size W w' := by
  have h := princ_ok 12 W (by decide) (by decide +kernel)
  rwa [show princ 12 = ⟨1, 2, -2⟩ by decide +kernel] at h
theorem all12_calls (W : World) : Calls Try.prog 12 #[.int .i64 12] W fun e w' => ∃ v, e = .returned (.tuple #[v, .int .i64 0]) ∧ OwnLL w' W.heap.size v [[⟨-2, 2, 1⟩, ⟨1, 2, -2⟩], [⟨-1, 2, 2⟩, ⟨2, 2, -1⟩]] ∧ Below W.heap.size W w' := by
  have h := all_ok 12 3 W cross12 (by decide) (by decide +kernel) (by decide) (by decide)
  rwa [all12] at h

theorem eqk1 (w : World) : (binOp .eql 23 (.agg #[.int .i64 1, .int .i64 2, .int .i64 (-1)]) (.agg #[.int .i64 1, .int .i64 2, .int .i64 (-1)])).run Try.prog w = .ok (.bool true) w := by kernel_rfl
theorem eqk2 (w : World) : (binOp .eql 35 (.agg #[.int .i64 (-1), .int .i64 (-1), .int .i64 0, .int .i64 (-1)]) (.agg #[.int .i64 (-1), .int .i64 (-1), .int .i64 0, .int .i64 (-1)])).run Try.prog w = .ok (.bool true) w := by kernel_rfl
theorem eqk3 (w : World) : (binOp .eql 23 (.agg #[.int .i64 2, .int .i64 2, .int .i64 (-1)]) (.agg #[.int .i64 2, .int .i64 2, .int .i64 (-1)])).run Try.prog w = .ok (.bool true) w := by kernel_rfl

set_option maxRecDepth 100000 in
set_option maxHeartbeats 8000000 in
theorem law4 (w : World) : Calls Try.prog 4 #[] w fun e w' => e = .returned (.bool true) ∧ Below w.heap.size w w' := by
  have q1 := fun W => eqk1 W
  have q2 := fun W => eqk2 W
  have q3 := fun W => eqw3 W
  have q4 := fun W => eqw4 W
  have q5 := fun W => eqk3 W
  go_enter Try.func4, Try.ntmps4
  go_wp2_with fail
  go_at_call 17; (with_reducible refine (red_k1 _).mono ?_); rintro e w1 ⟨rfl, hb1⟩
  have BT := Lib.hid hb1
  clear hb1
  have kA := (Blk.new w1 23 #[.int .i64 1, .int .i64 2, .int .i64 (-1)]).alloc (Obj.cells #[.int .i64 (-1), .int .i64 (-1), .int .i64 0, .int .i64 (-1)] 35)
  have kB := Blk.new2 w1 (Obj.cells #[.int .i64 1, .int .i64 2, .int .i64 (-1)] 23) 35 #[.int .i64 (-1), .int .i64 (-1), .int .i64 0, .int .i64 (-1)]
  have KA := Lib.hid (And.intro kA kB)
  clear kA kB
  go_wp2_with fail
  go_at_call 11; (with_reducible refine (princ12 _).mono ?_); rintro e w2 ⟨rfl, hb2⟩
  replace BT : Hid (Below w.heap.size w w2) := Lib.hid (bstepAA BT.out hb2 (Nat.le_refl _))
  replace KA : Hid _ := Lib.hid (And.intro (KA.out.1.below' hb2) (KA.out.2.below' hb2))
  have kC := Blk.new w2 23 #[.int .i64 1, .int .i64 2, .int .i64 (-2)]
  have KC := Lib.hid kC
  clear hb2 kC
  go_wp2_with fail
  go_at_call 12; (with_reducible refine (all12_calls _).mono ?_); rintro e w3 ⟨v, rfl, ho3, hb3⟩
  replace BT : Hid (Below w.heap.size w w3) := Lib.hid (bstepA BT.out hb3 (Nat.le_refl _))
  replace KA : Hid _ := Lib.hid (And.intro ((KA.out.1.alloc (Obj.cells #[.int .i64 1, .int .i64 2, .int .i64 (-2)] 23)).below' hb3) ((KA.out.2.alloc (Obj.cells #[.int .i64 1, .int .i64 2, .int .i64 (-2)] 23)).below' hb3))
  replace KC : Hid _ := Lib.hid (KC.out.below' hb3)
  obtain ⟨A, c, rfl⟩ := ho3.len
  have O3 := Lib.hid ho3
  clear hb3 ho3
  go_wp2_with fail
  go_at_call 18; (with_reducible refine (proper_k _).mono ?_); rintro e w4 ⟨rfl, hb4⟩
  have BS : Hid (Below w3.heap.size w3 w4) := Lib.hid hb4
  clear hb4
  go_wp2_with fail
  go_at_call 19; (with_reducible refine (chk1 _).mono ?_); rintro e w5 ⟨rfl, hb5⟩
  replace BS : Hid (Below w3.heap.size w3 w5) := Lib.hid (bstep BS.out hb5 (Nat.le_refl _))
  clear hb5
  go_wp2_with fail
  go_at_call 19; (with_reducible refine (chk2 _).mono ?_); rintro e w6 ⟨rfl, hb6⟩
  replace BS : Hid (Below w3.heap.size w3 w6) := Lib.hid (bstep BS.out hb6 (Nat.le_refl _))
  clear hb6
  go_wp2_with fail
  go_at_call 19; (with_reducible refine (chk3 _).mono ?_); rintro e w7 ⟨rfl, hb7⟩
  replace BS : Hid (Below w3.heap.size w3 w7) := Lib.hid (bstep BS.out hb7 (Nat.le_refl _))
  clear hb7
  go_wp2_with fail
  go_at_call 19; (with_reducible refine (chk4 _).mono ?_); rintro e w8 ⟨rfl, hb8⟩
  replace BS : Hid (Below w3.heap.size w3 w8) := Lib.hid (bstep BS.out hb8 (Nat.le_refl _))
  clear hb8
  have m1 := KA.out.1.below' BS.out
  have m2 := KA.out.2.below' BS.out
  have m3 := KC.out.below' BS.out
  have hl := O3.out.below BS.out
  obtain ⟨c10, c11, c12⟩ := m1.c3
  obtain ⟨c20, c21, c22, c23⟩ := m2.c4
  obtain ⟨c30, c31, c32⟩ := m3.c3
  obtain ⟨g, u0, hA, hg, hu0, hr0⟩ := OwnLL.at' rfl hl (i := 0) (l := [⟨-2, 2, 1⟩, ⟨1, 2, -2⟩]) rfl
  subst hA
  obtain ⟨g', u1, hA, hg', hu1, hr1⟩ := OwnLL.at' rfl hl (i := 1) (l := [⟨-1, 2, 2⟩, ⟨2, 2, -1⟩]) rfl
  obtain rfl : g = g' := by simpa using hA
  obtain ⟨A0, c0, rfl⟩ := own_slice hr0
  obtain ⟨A1, c1, rfl⟩ := own_slice hr1
  obtain ⟨g0, rfl, _, hg0⟩ := own_at hr0 (by decide)
  obtain ⟨g1, rfl, _, hg1⟩ := own_at hr1 (by decide)
  obtain ⟨x0, x1, x2⟩ := own_binM (l := [⟨-2, 2, 1⟩, ⟨1, 2, -2⟩]) rfl hr0 (k := 0) (by decide)
  obtain ⟨y0, y1, y2⟩ := own_binM (l := [⟨-1, 2, 2⟩, ⟨2, 2, -1⟩]) rfl hr1 (k := 1) (by decide)
  clear hr0 hr1 hl m1 m2 m3 hA
  go_wp2_with (go_at_call 15; (with_reducible refine (works9 _).mono ?_); rintro e w9 ⟨rfl, hb9⟩)
  go_ret
  exact ⟨rfl, (bstep (bstep BT.out BS.out (Nat.le_refl _)) hb9 (Nat.le_refl _))⟩

end Go.Proofs.Ytljhbjkdifmonaa
