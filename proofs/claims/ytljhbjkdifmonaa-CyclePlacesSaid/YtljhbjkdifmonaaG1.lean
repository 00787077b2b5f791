/- Plain facts on integer roots and on indefinite forms. No program here. -/
import Derived.KernelRfl
import Derived.Test.YtljhbjkdifmonaaProg
import Derived.Below
import Derived.Deep.Draws
import Derived.Deep.AppendLies
import Derived.Maps.AppendAt
import Derived.OwnWalk
import Derived.Laws.BytesArg
import Derived.Laws.MakeOwn
import Derived.Laws.OwnMore
import Derived.Deep.OwnRows
import Derived.Tactics
import Derived.Lib.ConvBytes
import Derived.Laws.Slices
import Derived.WalkKit
import Derived.RowKit3
import Derived.Deep.LoopGhost
import Derived.Deep.QuietTactic
import Derived.BigQuiet
import Derived.WideLaws
import Derived.Deep.DeepCutAuto
import Derived.Deep.CutBlock
import Derived.Deep.RegionHeld3
import Derived.Laws.Rows
import Derived.Lib.AppendStr
import Derived.ArgAppend
import Derived.Laws.IdiomCopy
import Derived.OrdersHeld
import Derived.Laws.BitsLemmas
import Derived.RowKit
import Derived.Outline
import Derived.Lib.Hide
namespace Pq

/-- s is the whole root of d. -/
structure IsRoot (s d : Int) : Prop where
  nn : 0 ≤ s
  le : s * s ≤ d
  lt : d < (s + 1) * (s + 1)

theorem sq_nonneg (a : Int) : 0 ≤ a * a := by
  by_cases h : 0 ≤ a
  · exact Int.mul_nonneg h h
  · have := Int.mul_nonneg (by omega : 0 ≤ -a) (by omega : 0 ≤ -a)
    rwa [Int.neg_mul_neg] at this
theorem mul_self_le {a b : Int} (h0 : 0 ≤ a) (h : a ≤ b) : a * a ≤ b * b := Int.mul_le_mul h h h0 (by omega)
theorem mul_self_lt {a b : Int} (h0 : 0 ≤ a) (h : a < b) : a * a < b * b := by
  have h1 : a * a ≤ a * b := Int.mul_le_mul_of_nonneg_left (by omega) h0
  have h2 : a * b < b * b := Int.mul_lt_mul_of_pos_right h (by omega)
  omega
theorem lt_of_mul_self_lt {a b : Int} (hb : 0 ≤ b) (h : a * a < b * b) : a < b := by
  by_cases h1 : a < b
  · exact h1
  · have := mul_self_le hb (by omega : b ≤ a); omega
theorem le_of_mul_self_le {a b : Int} (hb : 0 ≤ b) (h : a * a ≤ b * b) : a ≤ b := by
  by_cases h1 : b < a
  · have := mul_self_lt hb h1; omega
  · omega

theorem IsRoot.unique {s t d : Int} (h : IsRoot s d) (k : IsRoot t d) : s = t := by
  have h1 := h.nn; have h2 := k.nn
  have a : s < t + 1 := lt_of_mul_self_lt (by omega) (by have := h.le; have := k.lt; omega)
  have b : t < s + 1 := lt_of_mul_self_lt (by omega) (by have := k.le; have := h.lt; omega)
  omega

theorem IsRoot.exists {d : Int} (h : 0 ≤ d) : ∃ s, IsRoot s d := by
  obtain ⟨n, rfl⟩ := Int.eq_ofNat_of_zero_le h
  clear h
  induction n with
  | zero => exact ⟨0, by omega, by omega, by omega⟩
  | succ n ih =>
    obtain ⟨s, h1, h2, h3⟩ := ih
    by_cases hc : (s + 1) * (s + 1) ≤ ((n + 1 : Nat) : Int)
    · exact ⟨s + 1, by omega, hc, by grind⟩
    · exact ⟨s, h1, by omega, by omega⟩

/-- The step of Newton from a number above 0. -/
theorem newton_ge {s d x : Int} (h : IsRoot s d) (hx : 0 < x) : s ≤ (x + d / x) / 2 := by
  have h1 : (2 * s - x) * x ≤ d := by
    have := h.le
    have := sq_nonneg (s - x)
    grind
  have h2 : 2 * s - x ≤ d / x := Int.le_ediv_of_mul_le hx h1
  omega

theorem newton_stop {s d x : Int} (h : IsRoot s d) (hx : 0 < x) (hs : s ≤ x) (hy : x ≤ (x + d / x) / 2) : x = s := by
  have h1 : x ≤ d / x := by omega
  have h2 : x * x ≤ d := Int.le_trans (Int.mul_le_mul_of_nonneg_right h1 (by omega)) (Int.ediv_mul_le _ (by omega))
  have h3 : x < s + 1 := lt_of_mul_self_lt (by have := h.nn; omega) (by have := h.lt; omega)
  omega

theorem IsRoot.pos {s d : Int} (h : IsRoot s d) (hd : 0 < d) : 0 < s := by
  have := h.nn; have := h.lt
  by_cases h1 : 0 < s
  · exact h1
  · have : s = 0 := by omega
    subst this; omega

/-- A binary form. -/
structure Bin where
  a : Int
  b : Int
  c : Int
  deriving DecidableEq

/-- The size of a number. -/
def sz (x : Int) : Int := if x < 0 then -x else x
theorem sz_nonneg (x : Int) : 0 ≤ sz x := by unfold sz; split <;> omega
theorem sz_pos {x : Int} (h : x ≠ 0) : 0 < sz x := by unfold sz; split <;> omega
theorem sz_cases (x : Int) : sz x = x ∧ 0 ≤ x ∨ sz x = -x ∧ x < 0 := by unfold sz; split <;> omega
theorem sz_mul_self (x : Int) : sz x * sz x = x * x := by
  rcases sz_cases x with ⟨h, _⟩ | ⟨h, _⟩ <;> rw [h]
  grind

def Bin.disc (f : Bin) : Int := f.b * f.b - 4 * f.a * f.c

/-- Reduced, with the root s. -/
def Red (s : Int) (f : Bin) : Prop := 1 ≤ f.b ∧ f.b ≤ s ∧ s < f.b + 2 * sz f.a ∧ 2 * sz f.a - f.b ≤ s
instance (s : Int) (f : Bin) : Decidable (Red s f) := by unfold Red; infer_instance

def top (s : Int) (f : Bin) : Int := if s < sz f.c then sz f.c else s
def nb (s : Int) (f : Bin) : Int := top s f - (top s f + f.b) % (2 * sz f.c)
def nxt (d s : Int) (f : Bin) : Bin := ⟨f.c, nb s f, (nb s f * nb s f - d).tdiv (4 * f.c)⟩

/-- d is a discriminant that is no square; s its root. -/
structure Cross (d s : Int) : Prop where
  root : IsRoot s d
  nsq : s * s ≠ d
  pos : 0 < d

theorem Cross.lt {d s : Int} (h : Cross d s) : s * s < d := by have := h.root.le; have := h.nsq; omega
theorem Cross.spos {d s : Int} (h : Cross d s) : 0 < s := h.root.pos h.pos

theorem Cross.not_sq {d s : Int} (h : Cross d s) (x : Int) : x * x ≠ d := by
  intro e
  have h0 := h.lt; have h1 := h.root.lt
  rw [← sz_mul_self] at e
  have := sz_nonneg x
  have := h.root.nn
  have : s < sz x := lt_of_mul_self_lt (by omega) (by omega)
  have : sz x < s + 1 := lt_of_mul_self_lt (by omega) (by omega)
  omega

theorem Cross.c_ne {d s : Int} (h : Cross d s) {f : Bin} (hf : f.disc = d) : f.c ≠ 0 := by
  intro e
  unfold Bin.disc at hf
  rw [e] at hf
  exact h.not_sq f.b (by omega)
theorem Cross.a_ne {d s : Int} (h : Cross d s) {f : Bin} (hf : f.disc = d) : f.a ≠ 0 := by
  intro e
  unfold Bin.disc at hf
  rw [e] at hf
  exact h.not_sq f.b (by omega)

theorem nb_form (s : Int) (f : Bin) : ∃ k, nb s f = -f.b + 2 * f.c * k := by
  unfold nb
  have h := Int.emod_add_mul_ediv (top s f + f.b) (2 * sz f.c)
  rcases sz_cases f.c with ⟨hc, _⟩ | ⟨hc, _⟩
  · exact ⟨(top s f + f.b) / (2 * sz f.c), by rw [hc] at h ⊢; omega⟩
  · refine ⟨-((top s f + f.b) / (2 * sz f.c)), ?_⟩
    rw [hc] at h ⊢
    rw [show 2 * -f.c * ((top s f + f.b) / (2 * -f.c)) = 2 * f.c * -((top s f + f.b) / (2 * -f.c)) from by grind] at h
    omega

theorem nxt_c {d s : Int} {f : Bin} (hc : f.c ≠ 0) (hf : f.disc = d) {k : Int} (hk : nb s f = -f.b + 2 * f.c * k) :
    (nxt d s f).c = f.a - f.b * k + f.c * k * k := by
  unfold nxt
  simp only
  rw [hk]
  have : (-f.b + 2 * f.c * k) * (-f.b + 2 * f.c * k) - d = (4 * f.c) * (f.a - f.b * k + f.c * k * k) := by
    rw [← hf]; unfold Bin.disc; grind
  rw [this, Int.mul_tdiv_cancel_left _ (by omega)]

theorem nxt_disc {d s : Int} (h : Cross d s) {f : Bin} (hf : f.disc = d) : (nxt d s f).disc = d := by
  obtain ⟨k, hk⟩ := nb_form s f
  have hc := nxt_c (s := s) (h.c_ne hf) hf hk
  unfold Bin.disc
  rw [hc]
  show nb s f * nb s f - 4 * f.c * _ = d
  rw [hk, ← hf]; unfold Bin.disc; grind

theorem nb_range {s : Int} {f : Bin} (hc : f.c ≠ 0) : top s f - 2 * sz f.c < nb s f ∧ nb s f ≤ top s f := by
  unfold nb
  have := sz_pos hc
  have := Int.emod_nonneg (top s f + f.b) (b := 2 * sz f.c) (by omega)
  have := Int.emod_lt_of_pos (top s f + f.b) (b := 2 * sz f.c) (by omega)
  omega

/-- Products without signs. -/
theorem sz_ac {d : Int} {f : Bin} (hf : f.disc = d) (hb : f.b * f.b < d) : 4 * (sz f.a * sz f.c) = d - f.b * f.b := by
  unfold Bin.disc at hf
  have h1 : f.a * f.c < 0 := by grind
  have key : sz f.a * sz f.c = -(f.a * f.c) := by
    rcases sz_cases f.a with ⟨ha, ha'⟩ | ⟨ha, ha'⟩ <;> rcases sz_cases f.c with ⟨hc, hc'⟩ | ⟨hc, hc'⟩ <;> rw [ha, hc]
    · have := Int.mul_nonneg ha' hc'; omega
    · grind
    · grind
    · have := Int.mul_nonneg (by omega : 0 ≤ -f.a) (by omega : 0 ≤ -f.c); rw [Int.neg_mul_neg] at this; omega
  rw [key]; grind

theorem Red.b_lt {d s : Int} (h : Cross d s) {f : Bin} (hr : Red s f) : f.b * f.b < d := by
  have := mul_self_le (a := f.b) (by have := hr.1; omega) hr.2.1
  have := h.lt; omega

/-- A reduced form is reduced from its other side, too. -/
theorem Red.c_side {d s : Int} (h : Cross d s) {f : Bin} (hf : f.disc = d) (hr : Red s f) : s < f.b + 2 * sz f.c ∧ 2 * sz f.c - f.b ≤ s := by
  have hac := sz_ac hf (hr.b_lt h)
  obtain ⟨h1, h2, h3, h4⟩ := hr
  have ha := sz_nonneg f.a
  have hc := sz_nonneg f.c
  have hl := h.root.lt; have hl2 := h.lt
  constructor
  · by_cases hx : s < f.b + 2 * sz f.c
    · exact hx
    · have e1 : (2 * sz f.a) * (2 * sz f.c) ≤ (s + f.b) * (s - f.b) := Int.mul_le_mul (by omega) (by omega) (by omega) (by omega)
      grind
  · by_cases hx : 2 * sz f.c - f.b ≤ s
    · exact hx
    · have e1 : (s + 1 - f.b) * (s + 1 + f.b) ≤ (2 * sz f.a) * (2 * sz f.c) := Int.mul_le_mul (by omega) (by omega) (by omega) (by omega)
      grind

theorem Red.c_le {d s : Int} (h : Cross d s) {f : Bin} (hf : f.disc = d) (hr : Red s f) : sz f.c ≤ s := by
  have := (hr.c_side h hf).2; have := hr.2.1; omega
theorem Red.a_le {s : Int} {f : Bin} (hr : Red s f) : sz f.a ≤ s := by
  have := hr.2.2.2; have := hr.2.1; omega

theorem Red.top_eq {d s : Int} (h : Cross d s) {f : Bin} (hf : f.disc = d) (hr : Red s f) : top s f = s := by
  unfold top; rw [if_neg]; have := hr.c_le h hf; omega

/-- nb is the only number that is -b modulo 2|c| in its range. -/
theorem nb_unique {s : Int} {f : Bin} (hc : f.c ≠ 0) {x k : Int} (hx : x = -f.b + 2 * f.c * k) (h1 : top s f - 2 * sz f.c < x) (h2 : x ≤ top s f) : x = nb s f := by
  obtain ⟨j, hj⟩ := nb_form s f
  have hr := nb_range (s := s) hc
  have hd : x - nb s f = 2 * f.c * (k - j) := by rw [hx, hj]; grind
  have h3 : x - nb s f < 2 * sz f.c := by omega
  have h4 : -(2 * sz f.c) < x - nb s f := by omega
  rw [hd] at h3 h4
  have : k - j = 0 := by
    have hp := sz_pos hc
    rcases sz_cases f.c with ⟨e, _⟩ | ⟨e, _⟩
    · rw [e] at h3 h4 hp
      have a1 : k - j < 1 := Int.lt_of_mul_lt_mul_left (a := 2 * f.c) (by omega) (by omega)
      have a2 : -1 < k - j := Int.lt_of_mul_lt_mul_left (a := 2 * f.c) (by omega) (by omega)
      omega
    · rw [e] at h3 h4 hp
      have a1 : -(k - j) < 1 := Int.lt_of_mul_lt_mul_left (a := 2 * -f.c) (by grind) (by omega)
      have a2 : -1 < -(k - j) := Int.lt_of_mul_lt_mul_left (a := 2 * -f.c) (by grind) (by omega)
      omega
  rw [this] at hd; omega

theorem Red.next {d s : Int} (h : Cross d s) {f : Bin} (hf : f.disc = d) (hr : Red s f) : Red s (nxt d s f) := by
  have hc0 := h.c_ne hf
  have hcs := hr.c_side h hf
  have hcl := hr.c_le h hf
  have hrg := nb_range (s := s) hc0
  rw [hr.top_eq h hf] at hrg
  have hp := sz_pos hc0
  -- nb is at least 2|c| - b
  have hge : 2 * sz f.c - f.b ≤ nb s f := by
    have h1 : top s f - 2 * sz f.c < (nb s f) := by rw [hr.top_eq h hf]; exact hrg.1
    by_cases hx : 2 * sz f.c - f.b ≤ nb s f
    · exact hx
    · -- then nb + 2|c| is still at most s, or below
      obtain ⟨j, hj⟩ := nb_form s f
      exfalso
      have e : 2 * sz f.c - f.b = nb s f := by
        rcases sz_cases f.c with ⟨e, _⟩ | ⟨e, _⟩
        · exact nb_unique (k := 1) hc0 (by rw [e]; omega) (by rw [hr.top_eq h hf]; omega) (by rw [hr.top_eq h hf]; omega)
        · by_cases hy : s - 2 * sz f.c < 2 * sz f.c - f.b
          · exact nb_unique (k := -1) hc0 (by rw [e]; omega) (by rw [hr.top_eq h hf]; omega) (by rw [hr.top_eq h hf]; omega)
          · omega
      omega
  refine ⟨?_, hrg.2, ?_, ?_⟩
  · show 1 ≤ nb s f
    have := hr.2.1; omega
  · show s < nb s f + 2 * sz f.c
    omega
  · show 2 * sz f.c - nb s f ≤ s
    have := hr.2.1; omega

end Pq

/- Plain facts: the next form, backwards; how long it takes to a reduced one; bounds. No program here. -/
namespace Pq

theorem Bin.ext' {f g : Bin} (h1 : f.a = g.a) (h2 : f.b = g.b) (h3 : f.c = g.c) : f = g := by
  cases f; cases g; simp_all

/-- The next form tells the one ahead, among the reduced ones. -/
theorem nxt_inj {d s : Int} (h : Cross d s) {f g : Bin} (hf : f.disc = d) (hg : g.disc = d) (rf : Red s f) (rg : Red s g) (e : nxt d s f = nxt d s g) : f = g := by
  have ec : f.c = g.c := congrArg Bin.a e
  have eb : nb s f = nb s g := congrArg Bin.b e
  have hc0 := h.c_ne hf
  -- both b's are -nb modulo 2|c| and lie between s - 2|c| and s
  obtain ⟨k, hk⟩ := nb_form s f
  obtain ⟨j, hj⟩ := nb_form s g
  have h1 := rf.c_side h hf
  have h2 := rg.c_side h hg
  have hb : f.b = g.b := by
    have F : nb s ⟨f.a, nb s f, f.c⟩ = f.b := (nb_unique (f := ⟨f.a, nb s f, f.c⟩) (k := k) (x := f.b) hc0 (by show f.b = -nb s f + 2 * f.c * k; omega) (by show top s f - _ < _; rw [rf.top_eq h hf]; show s - 2 * sz f.c < f.b; omega) (by show _ ≤ top s f; rw [rf.top_eq h hf]; exact rf.2.1)).symm
    have G : nb s ⟨f.a, nb s f, f.c⟩ = g.b := (nb_unique (f := ⟨f.a, nb s f, f.c⟩) (k := j) (x := g.b) hc0 (by show g.b = -nb s f + 2 * f.c * j; rw [eb, ec]; omega) (by show top s f - _ < _; rw [rf.top_eq h hf]; show s - 2 * sz f.c < g.b; rw [ec]; omega) (by show _ ≤ top s f; rw [rf.top_eq h hf]; exact rg.2.1)).symm
    rw [← F, G]
  have ha : f.a = g.a := by
    have e1 : 4 * f.a * f.c = 4 * g.a * f.c := by unfold Bin.disc at hf hg; rw [ec] at hf ⊢; rw [hb] at hf; omega
    have := Int.eq_of_mul_eq_mul_right hc0 e1
    omega
  exact Bin.ext' ha hb ec

/-- How far a form may be from a reduced one. -/
def It (d s : Int) : Nat → Bin → Bin
  | 0, f => f
  | n + 1, f => It d s n (nxt d s f)
theorem It_succ' (d s : Int) (n : Nat) (f : Bin) : It d s (n + 1) f = nxt d s (It d s n f) := by
  induction n generalizing f with
  | zero => rfl
  | succ n ih => rw [It, ih]; rfl
theorem It_add (d s : Int) (m n : Nat) (f : Bin) : It d s (m + n) f = It d s n (It d s m f) := by
  induction m generalizing f with
  | zero => simp [It]
  | succ m ih => rw [Nat.succ_add, It, ih]; rfl
theorem It_disc {d s : Int} (h : Cross d s) (n : Nat) {f : Bin} (hf : f.disc = d) : (It d s n f).disc = d := by
  induction n generalizing f with
  | zero => exact hf
  | succ n ih => exact ih (nxt_disc h hf)
theorem It_red {d s : Int} (h : Cross d s) (n : Nat) {f : Bin} (hf : f.disc = d) (hr : Red s f) : Red s (It d s n f) := by
  induction n generalizing f with
  | zero => exact hr
  | succ n ih => exact ih (nxt_disc h hf) (hr.next h hf)

/-- |c| falls to less than a half while it is above the root. -/
theorem c_falls {d s : Int} (h : Cross d s) {f : Bin} (hf : f.disc = d) (hc : s < sz f.c) : 2 * sz (nxt d s f).c ≤ sz f.c := by
  have hc0 := h.c_ne hf
  have hrg := nb_range (s := s) hc0
  have ht : top s f = sz f.c := by unfold top; rw [if_pos hc]
  rw [ht] at hrg
  have hd := nxt_disc h hf
  unfold Bin.disc at hd
  have ha : (nxt d s f).a = f.c := rfl
  have hb : (nxt d s f).b = nb s f := rfl
  rw [ha, hb] at hd
  have hs := h.spos
  have h1 : nb s f * nb s f ≤ sz f.c * sz f.c := by
    rw [← sz_mul_self (nb s f)]
    refine mul_self_le (sz_nonneg _) ?_
    unfold sz at hrg ⊢
    omega
  have h2 : d ≤ sz f.c * sz f.c := by have := h.root.lt; have := mul_self_le (a := s + 1) (b := sz f.c) (by omega) (by omega); omega
  have h3 : 0 ≤ nb s f * nb s f := sq_nonneg _
  have h4 : 0 < d := h.pos
  generalize (nxt d s f).c = c' at hd ⊢
  have h5 : 4 * (sz f.c * sz c') ≤ sz f.c * sz f.c := by
    have e : 4 * f.c * c' = nb s f * nb s f - d := by omega
    rcases sz_cases f.c with ⟨e1, _⟩ | ⟨e1, _⟩ <;> rcases sz_cases c' with ⟨e2, _⟩ | ⟨e2, _⟩ <;> rw [e1] at h1 h2 ⊢ <;> rw [e2] <;> grind
  have hp : 0 < sz f.c := by omega
  have h6 : sz f.c * (4 * sz c') ≤ sz f.c * sz f.c := by grind
  have := Int.le_of_mul_le_mul_left h6 hp
  have := sz_nonneg c'
  omega

/-- From |c| not above the root the next form, or the one behind it, is reduced. -/
theorem red_of_two {d s : Int} (h : Cross d s) {f : Bin} (hf : f.disc = d) (hb1 : s - 2 * sz f.a < f.b) (hb2 : f.b ≤ s) (ha : 2 * sz f.a ≤ s) : Red s f := by
  refine ⟨?_, hb2, ?_, ?_⟩ <;> omega

theorem soon_red {d s : Int} (h : Cross d s) {f : Bin} (hf : f.disc = d) (hc : sz f.c ≤ s) : Red s (nxt d s f) ∨ Red s (nxt d s (nxt d s f)) := by
  have hc0 := h.c_ne hf
  have hrg := nb_range (s := s) hc0
  have ht : top s f = s := by unfold top; rw [if_neg (by omega)]
  rw [ht] at hrg
  have hd := nxt_disc h hf
  have ha : (nxt d s f).a = f.c := rfl
  have hb : (nxt d s f).b = nb s f := rfl
  by_cases h2 : 2 * sz f.c ≤ s
  · exact .inl (red_of_two h hd (by rw [ha, hb]; omega) (by rw [hb]; omega) (by rw [ha]; exact h2))
  · right
    have hs := h.spos
    have hbs : nb s f * nb s f ≤ s * s := by
      rw [← sz_mul_self (nb s f)]
      refine mul_self_le (sz_nonneg _) ?_
      unfold sz at hrg hc h2 ⊢
      omega
    have hlt := h.lt
    have hac := sz_ac hd (by rw [hb]; omega)
    rw [ha, hb] at hac
    have hc' : 2 * sz (nxt d s f).c ≤ s := by
      by_cases hx : 2 * sz (nxt d s f).c ≤ s
      · exact hx
      · exfalso
        have e1 : (s + 1) * (s + 1) ≤ (2 * sz f.c) * (2 * sz (nxt d s f).c) := Int.mul_le_mul (by omega) (by omega) (by omega) (by have := sz_nonneg f.c; omega)
        have := h.root.lt
        have := sq_nonneg (nb s f)
        grind
    have hc1 := h.c_ne hd
    have hrg2 := nb_range (s := s) hc1
    have ht2 : top s (nxt d s f) = s := by unfold top; rw [if_neg (by have := sz_nonneg (nxt d s f).c; omega)]
    rw [ht2] at hrg2
    exact red_of_two h (nxt_disc h hd) hrg2.1 hrg2.2 hc'

theorem exists_red {d s : Int} (h : Cross d s) (m : Nat) {f : Bin} (hf : f.disc = d) (hm : sz f.c ≤ m) : ∃ n, Red s (It d s n f) := by
  induction m using Nat.strongRecOn generalizing f with
  | _ m ih =>
    by_cases hc : sz f.c ≤ s
    · rcases soon_red h hf hc with h1 | h1
      · exact ⟨1, h1⟩
      · exact ⟨2, h1⟩
    · have hfall := c_falls h hf (by omega)
      have hp := sz_pos (h.c_ne hf)
      obtain ⟨n, hn⟩ := ih ((sz f.c / 2).toNat) (by omega) (f := nxt d s f) (nxt_disc h hf) (by omega)
      exact ⟨n + 1, hn⟩

/-- There is a first reduced one. -/
theorem exists_first {d s : Int} (h : Cross d s) {f : Bin} (hf : f.disc = d) : ∃ n, Red s (It d s n f) ∧ ∀ k, k < n → ¬ Red s (It d s k f) := by
  obtain ⟨n, hn⟩ := exists_red h (sz f.c).toNat hf (by have := sz_nonneg f.c; omega)
  induction n using Nat.strongRecOn with
  | _ n ih =>
    by_cases hx : ∃ k, k < n ∧ Red s (It d s k f)
    · obtain ⟨k, hk, hr⟩ := hx
      exact ih k hk hr
    · exact ⟨n, hn, fun k hk hr => hx ⟨k, hk, hr⟩⟩

/-- Coefficients within a bound M that is above the root. -/
structure Within (M : Int) (f : Bin) : Prop where
  a : -M ≤ f.a ∧ f.a ≤ M
  b : -M ≤ f.b ∧ f.b ≤ M
  c : -M ≤ f.c ∧ f.c ≤ M

theorem sz_le {x M : Int} (h : -M ≤ x ∧ x ≤ M) : sz x ≤ M := by unfold sz; split <;> omega
theorem of_sz_le {x M : Int} (h : sz x ≤ M) : -M ≤ x ∧ x ≤ M := by unfold sz at h; split at h <;> omega

theorem nxt_within {d s M : Int} (h : Cross d s) (hM : s < M) {f : Bin} (hf : f.disc = d) (hw : Within M f) : Within M (nxt d s f) := by
  have hc0 := h.c_ne hf
  have hp := sz_pos hc0
  have hrg := nb_range (s := s) hc0
  have hs := h.spos
  have hcM := sz_le hw.c
  refine ⟨hw.c, ?_, ?_⟩
  · show -M ≤ nb s f ∧ nb s f ≤ M
    unfold top at hrg
    split at hrg <;> omega
  · by_cases hc : s < sz f.c
    · have := c_falls h hf hc
      have := sz_nonneg (nxt d s f).c
      exact of_sz_le (by omega)
    · have ht : top s f = s := by unfold top; rw [if_neg hc]
      rw [ht] at hrg
      have hd := nxt_disc h hf
      have hbs : nb s f * nb s f ≤ s * s := by
        rw [← sz_mul_self (nb s f)]
        refine mul_self_le (sz_nonneg _) ?_
        unfold sz at hrg hc ⊢
        omega
      have hac := sz_ac hd (by have := h.lt; show nb s f * nb s f < d; omega)
      have ha : (nxt d s f).a = f.c := rfl
      have hb : (nxt d s f).b = nb s f := rfl
      rw [ha, hb] at hac
      have hl := h.root.lt
      apply of_sz_le
      -- |c'| ≤ s
      by_cases hx : sz (nxt d s f).c ≤ M
      · exact hx
      · exfalso
        have e1 : sz f.c * (s + 1) ≤ sz f.c * sz (nxt d s f).c := Int.mul_le_mul_of_nonneg_left (by omega) (by omega)
        by_cases hz : 0 ≤ s - 2 * sz f.c + 1
        · have e2 : (s - 2 * sz f.c + 1) * (s - 2 * sz f.c + 1) ≤ nb s f * nb s f := mul_self_le hz (by omega)
          have e3 := sq_nonneg (sz f.c)
          have : 0 < sz f.c * sz f.c := Int.mul_pos hp hp
          grind
        · have e2 := sq_nonneg (nb s f)
          have : (s + 1) * (s + 1) < (2 * sz f.c) * (s + 1) := Int.mul_lt_mul_of_pos_right (by omega) (by omega)
          grind

theorem It_within {d s M : Int} (h : Cross d s) (hM : s < M) (n : Nat) {f : Bin} (hf : f.disc = d) (hw : Within M f) : Within M (It d s n f) := by
  induction n generalizing f with
  | zero => exact hw
  | succ n ih => exact ih (nxt_disc h hf) (nxt_within h hM hf hw)

end Pq

/- The whole root as a function; which numbers are discriminants; the check of a form. No program here. -/
namespace Pq

/-- The whole root, by counting. -/
def rtN : Nat → Nat
  | 0 => 0
  | n + 1 => if (rtN n + 1) * (rtN n + 1) ≤ n + 1 then rtN n + 1 else rtN n
theorem rtN_spec (n : Nat) : rtN n * rtN n ≤ n ∧ n < (rtN n + 1) * (rtN n + 1) := by
  induction n with
  | zero => simp [rtN]
  | succ n ih =>
    unfold rtN
    split
    · rename_i h
      refine ⟨h, ?_⟩
      have := ih.2
      grind
    · rename_i h
      have := ih.1
      omega
def rt (d : Int) : Int := (rtN d.toNat : Int)
theorem rt_root {d : Int} (h : 0 ≤ d) : IsRoot (rt d) d := by
  obtain ⟨n, rfl⟩ := Int.eq_ofNat_of_zero_le h
  have := rtN_spec n
  unfold rt
  simp only [Int.toNat_natCast]
  refine ⟨by omega, ?_, ?_⟩
  · have h := this.1
    have : ((rtN n * rtN n : Nat) : Int) ≤ n := by omega
    simpa using this
  · have h := this.2
    have : (n : Int) < (((rtN n + 1) * (rtN n + 1) : Nat) : Int) := by omega
    simpa using this

/-- Is a number a discriminant of cross forms? -/
def crossB (d : Int) : Bool := decide (1 ≤ d) && decide (d < 1152921504606846976) && decide (d % 4 ≤ 1) && !decide (rt d * rt d = d)

theorem crossB_true {d : Int} (h : crossB d = true) : Cross d (rt d) ∧ d < 1152921504606846976 ∧ d % 4 ≤ 1 := by
  unfold crossB at h
  simp at h
  exact ⟨⟨rt_root (by omega), h.2, by omega⟩, by omega, by omega⟩

theorem crossB_false {d : Int} (h : crossB d = false) : (d < 1 ∨ 1152921504606846976 ≤ d ∨ 1 < d % 4) ∨ (0 ≤ rt d ∧ rt d * rt d = d ∧ 1 ≤ d ∧ d < 1152921504606846976 ∧ d % 4 ≤ 1) := by
  unfold crossB at h
  simp at h
  by_cases h1 : d < 1
  · exact .inl (.inl h1)
  by_cases h2 : 1152921504606846976 ≤ d
  · exact .inl (.inr (.inl h2))
  by_cases h3 : 1 < d % 4
  · exact .inl (.inr (.inr h3))
  exact .inr ⟨(rt_root (by omega)).nn, h (by omega) (by omega) (by omega), by omega, by omega, by omega⟩

/-- Are the coefficients in bounds? -/
def inB (f : Bin) : Bool := decide (-1073741824 ≤ f.a) && decide (f.a ≤ 1073741824) && decide (-1073741824 ≤ f.b) && decide (f.b ≤ 1073741824) && decide (-1073741824 ≤ f.c) && decide (f.c ≤ 1073741824)
theorem inB_true {f : Bin} (h : inB f = true) : Within 1073741824 f := by
  unfold inB at h; simp at h
  exact ⟨by omega, by omega, by omega⟩
theorem inB_of {f : Bin} (h : Within 1073741824 f) : inB f = true := by
  unfold inB; simp
  have := h.a; have := h.b; have := h.c; omega
theorem inB_false {f : Bin} (h : inB f = false) : ¬ Within 1073741824 f := fun k => by rw [inB_of k] at h; cases h

/-- The number of the check's error. -/
def chk (f : Bin) : Int := if inB f = true then (if crossB f.disc = true then 0 else 80) else 3

theorem chk_zero {f : Bin} (h : chk f = 0) : Within 1073741824 f ∧ crossB f.disc = true := by
  unfold chk at h
  split at h
  · rename_i h1
    split at h
    · rename_i h2; exact ⟨inB_true h1, h2⟩
    · omega
  · omega
theorem chk_of {f : Bin} (h : Within 1073741824 f) (h2 : crossB f.disc = true) : chk f = 0 := by
  unfold chk; rw [if_pos (inB_of h), if_pos h2]

/-- Products of coefficients in bounds. -/
theorem Within.bb {f : Bin} (h : Within 1073741824 f) : 0 ≤ f.b * f.b ∧ f.b * f.b ≤ 1152921504606846976 := by
  refine ⟨sq_nonneg _, ?_⟩
  rw [← sz_mul_self]
  exact mul_self_le (a := sz f.b) (b := 1073741824) (sz_nonneg _) (sz_le h.b)
theorem mul_bound {x y M N : Int} (hx : -M ≤ x ∧ x ≤ M) (hy : -N ≤ y ∧ y ≤ N) : -(M * N) ≤ x * y ∧ x * y ≤ M * N := by
  have hM : 0 ≤ M := by omega
  have hN : 0 ≤ N := by omega
  have key : sz x * sz y ≤ M * N := Int.mul_le_mul (sz_le hx) (sz_le hy) (sz_nonneg _) hM
  rcases sz_cases x with ⟨e1, _⟩ | ⟨e1, _⟩ <;> rcases sz_cases y with ⟨e2, _⟩ | ⟨e2, _⟩ <;> rw [e1, e2] at key
  · have := Int.mul_nonneg (a := x) (b := y) (by omega) (by omega); have := Int.mul_nonneg hM hN; omega
  · have := Int.mul_nonneg (a := x) (b := -y) (by omega) (by omega); have := Int.mul_nonneg hM hN; grind
  · have := Int.mul_nonneg (a := -x) (b := y) (by omega) (by omega); have := Int.mul_nonneg hM hN; grind
  · have := Int.mul_nonneg (a := -x) (b := -y) (by omega) (by omega); have := Int.mul_nonneg hM hN; grind
theorem Within.ac {f : Bin} (h : Within 1073741824 f) : -4611686018427387904 ≤ 4 * f.a * f.c ∧ 4 * f.a * f.c ≤ 4611686018427387904 := by
  have := mul_bound h.a h.c
  rw [Int.mul_assoc]
  omega

end Pq

/- How many square roots a number may have modulo 4a, for small a: reckoned by the kernel. No program here. -/
namespace Pq

/-- How many r below n have a square that leaves q when divided by m. -/
noncomputable def cnt (m q n : Nat) : Nat := Nat.rec 0 (fun k ih => bif Nat.beq (k * k % m) q then Nat.succ ih else ih) n

def tbl : List Nat := [0, 1, 2, 2, 2, 2, 4, 2, 4, 3, 4, 2, 4, 2, 4, 4, 4, 2, 6, 2, 4, 4, 4, 2, 8, 5, 4, 6, 4, 2, 8, 2, 8, 4, 4, 4, 6, 2, 4, 4, 8, 2, 8, 2, 4, 6, 4, 2, 8, 7, 10, 4, 4, 2, 12, 4, 8, 4, 4, 2, 8, 2, 4, 6, 8, 4, 8, 2, 4, 4, 8, 2, 12, 2, 4, 10, 4, 4, 8, 2, 8, 9, 4, 2, 8, 4, 4, 4, 8, 2, 12, 4, 4, 4, 4, 4, 16, 2, 14, 6, 10, 2, 8, 2, 8, 8, 4, 2, 12, 2, 8, 4, 8, 2, 8, 4, 4, 6, 4, 4, 16, 11, 4, 4, 4, 10, 12, 2]

noncomputable def chkR (a m n : Nat) : Bool := Nat.rec true (fun k ih => Nat.ble (cnt (4 * a) (k * k % (4 * a)) (2 * a)) m && ih) n
noncomputable def chkA (l : List Nat) : Nat → Bool := List.rec (fun _ => true) (fun m _ ih a => chkR a m (a + 1) && ih (a + 1)) l

theorem cnt_zero (m q : Nat) : cnt m q 0 = 0 := rfl
theorem cnt_succ (m q n : Nat) : cnt m q (n + 1) = if n * n % m = q then cnt m q n + 1 else cnt m q n := by
  show (bif Nat.beq (n * n % m) q then Nat.succ (cnt m q n) else cnt m q n) = _
  cases hb : Nat.beq (n * n % m) q with
  | true => rw [if_pos (Nat.eq_of_beq_eq_true hb)]; rfl
  | false => rw [if_neg (Nat.ne_of_beq_eq_false hb)]; rfl
theorem chkR_succ (a m n : Nat) : chkR a m (n + 1) = (Nat.ble (cnt (4 * a) (n * n % (4 * a)) (2 * a)) m && chkR a m n) := rfl

theorem tbl_ok : chkA tbl 0 = true := by decide +kernel
theorem tbl_sum : tbl.foldl (· + ·) 0 ≤ 1000 := by decide +kernel
theorem tbl_len : tbl.length = 128 := by decide +kernel

end Pq

/- How many reduced forms a discriminant has, at most; the cycle of a reduced form closes. No program here. -/
namespace Pq

theorem nodup_length_le {α : Type} [DecidableEq α] : ∀ (l m : List α), l.Nodup → (∀ x ∈ l, x ∈ m) → l.length ≤ m.length
  | [], m, _, _ => by simp
  | x :: l, m, h, hs => by
    have hx : x ∈ m := hs x (by simp)
    have h1 := List.nodup_cons.1 h
    have := nodup_length_le l (m.erase x) h1.2 (fun y hy => (List.mem_erase_of_ne (fun e => by subst e; exact h1.1 hy)).2 (hs y (by simp [hy])))
    rw [List.length_erase_of_mem hx] at this
    have hm : 0 < m.length := List.length_pos_of_mem hx
    simp; omega

theorem nodup_map {α β : Type} (f : α → β) : ∀ (l : List α), l.Nodup → (∀ x ∈ l, ∀ y ∈ l, f x = f y → x = y) → (l.map f).Nodup
  | [], _, _ => by simp
  | x :: l, h, hi => by
    have h1 := List.nodup_cons.1 h
    rw [List.map_cons, List.nodup_cons]
    refine ⟨?_, nodup_map f l h1.2 (fun y hy z hz => hi y (by simp [hy]) z (by simp [hz]))⟩
    rw [List.mem_map]
    rintro ⟨y, hy, e⟩
    exact h1.1 (by rw [hi x (by simp) y (by simp [hy]) e.symm]; exact hy)

/-- The square roots below n. -/
theorem cnt_filter (m q n : Nat) : ((List.range n).filter fun r => decide (r * r % m = q)).length = cnt m q n := by
  induction n with
  | zero => rfl
  | succ n ih =>
    rw [List.range_succ, List.filter_append, List.length_append, ih, cnt_succ]
    by_cases h : n * n % m = q <;> simp [h]

theorem chkR_at {a m : Nat} : ∀ {n k : Nat}, chkR a m n = true → k < n → cnt (4 * a) (k * k % (4 * a)) (2 * a) ≤ m
  | 0, _, _, hk => by omega
  | n + 1, k, h, hk => by
    rw [chkR_succ, Bool.and_eq_true] at h
    by_cases e : k = n
    · subst e; exact Nat.le_of_ble_eq_true h.1
    · exact chkR_at h.2 (by omega)

theorem chkA_at : ∀ (l : List Nat) (a i m : Nat), chkA l a = true → l[i]? = some m → chkR (a + i) m (a + i + 1) = true
  | [], _, _, _, _, h => by simp at h
  | x :: l, a, 0, m, h, hi => by
    have h' : (chkR a x (a + 1) && chkA l (a + 1)) = true := h
    rw [Bool.and_eq_true] at h'
    simp at hi; subst hi
    exact h'.1
  | x :: l, a, i + 1, m, h, hi => by
    have h' : (chkR a x (a + 1) && chkA l (a + 1)) = true := h
    rw [Bool.and_eq_true] at h'
    have := chkA_at l (a + 1) i m h'.2 (by simpa using hi)
    rw [show a + (i + 1) = a + 1 + i by omega]; exact this

/-- The bound for a. -/
def mx (a : Nat) : Nat := tbl.getD a 0

theorem cnt_le {a q : Nat} (ha : a < 128) (ha0 : 0 < a) : cnt (4 * a) q (2 * a) ≤ mx a := by
  have hl : a < tbl.length := by rw [tbl_len]; exact ha
  have hi : tbl[a]? = some (mx a) := by unfold mx; simp [List.getD, List.getElem?_eq_getElem hl]
  have hr := chkA_at tbl 0 a (mx a) tbl_ok hi
  rw [Nat.zero_add] at hr
  by_cases he : ∃ r, r < 2 * a ∧ r * r % (4 * a) = q
  · obtain ⟨r, hr1, rfl⟩ := he
    by_cases h2 : r ≤ a
    · exact chkR_at hr (by omega)
    · have e : r * r % (4 * a) = (2 * a - r) * (2 * a - r) % (4 * a) := by
        obtain ⟨u, hu⟩ : ∃ u, 2 * a = r + u := ⟨2 * a - r, by omega⟩
        rw [show 2 * a - r = u by omega]
        -- u u + 4 a r = r r + 4 a a + ..
        have h1 : u * u + 4 * a * r = r * r + 4 * a * a := by
          have : (2 * a) * (2 * a) = (r + u) * (r + u) := by rw [hu]
          have h4 : 4 * a * r = 2 * (r + u) * r := by rw [← hu]; grind
          grind
        have h5 : (u * u + 4 * a * r) % (4 * a) = u * u % (4 * a) := by rw [Nat.add_mul_mod_self_left]
        have h6 : (r * r + 4 * a * a) % (4 * a) = r * r % (4 * a) := by rw [Nat.add_mul_mod_self_left]
        rw [← h5, ← h6, h1]
      rw [e]
      exact chkR_at hr (by omega)
  · have : cnt (4 * a) q (2 * a) = 0 := by
      rw [← cnt_filter]
      rw [List.length_eq_zero_iff, List.filter_eq_nil_iff]
      intro r hr; simp at hr ⊢
      intro h; exact he ⟨r, hr, h⟩
    omega

/-- Forms with one a: not more than square roots. -/
theorem one_a {d s a : Int} (h : Cross d s) (ha : a ≠ 0) (l : List Bin) (hn : l.Nodup) (hl : ∀ f ∈ l, f.a = a ∧ f.disc = d ∧ Red s f) : l.length ≤ cnt (4 * a.natAbs) (d % (4 * a.natAbs)).toNat (2 * a.natAbs) := by
  rw [← cnt_filter]
  have hA : 0 < (a.natAbs : Int) := by omega
  have hm : (l.map fun f : Bin => (f.b % (2 * (a.natAbs : Int))).toNat).Nodup := by
    refine nodup_map _ l hn fun f hf g hg e => ?_
    obtain ⟨fa, fd, fr⟩ := hl f hf
    obtain ⟨ga, gd, gr⟩ := hl g hg
    have h1 := Int.emod_nonneg f.b (b := 2 * (a.natAbs : Int)) (by omega)
    have h2 := Int.emod_nonneg g.b (b := 2 * (a.natAbs : Int)) (by omega)
    have e' : f.b % (2 * a.natAbs) = g.b % (2 * a.natAbs) := by omega
    have hsz : sz f.a = (a.natAbs : Int) := by rw [fa]; unfold sz; split <;> omega
    have hsz2 : sz g.a = (a.natAbs : Int) := by rw [ga]; unfold sz; split <;> omega
    have f1 := fr.2.1; have f2 := fr.2.2.1
    have g1 := gr.2.1; have g2 := gr.2.2.1
    rw [hsz] at f2
    rw [hsz2] at g2
    have hb : f.b = g.b := by
      have d1 : (f.b - g.b) % (2 * a.natAbs) = 0 := by rw [Int.sub_emod, e']; simp
      obtain ⟨k, hk⟩ := Int.dvd_of_emod_eq_zero d1
      have k1 : k < 1 := Int.lt_of_mul_lt_mul_left (a := 2 * (a.natAbs : Int)) (by omega) (by omega)
      have k2 : -1 < k := Int.lt_of_mul_lt_mul_left (a := 2 * (a.natAbs : Int)) (by omega) (by omega)
      have : k = 0 := by omega
      subst this; omega
    have hc : f.c = g.c := by
      unfold Bin.disc at fd gd
      rw [fa, hb] at fd
      rw [ga] at gd
      have : (4 * a) * f.c = (4 * a) * g.c := by omega
      exact Int.eq_of_mul_eq_mul_left (by omega) this
    exact Bin.ext' (fa.trans ga.symm) hb hc
  have := nodup_length_le _ ((List.range (2 * a.natAbs)).filter fun r => decide (r * r % (4 * a.natAbs) = (d % (4 * a.natAbs)).toNat)) hm (by
    intro r hr
    rw [List.mem_map] at hr
    obtain ⟨f, hf, rfl⟩ := hr
    obtain ⟨fa, fd, _⟩ := hl f hf
    have h1 := Int.emod_nonneg f.b (b := 2 * (a.natAbs : Int)) (by omega)
    have h2 := Int.emod_lt_of_pos f.b (b := 2 * (a.natAbs : Int)) (by omega)
    rw [List.mem_filter, List.mem_range]
    refine ⟨by omega, ?_⟩
    rw [decide_eq_true_eq]
    have e1 : (f.b % (2 * a.natAbs)) * (f.b % (2 * a.natAbs)) % (4 * a.natAbs) = d % (4 * a.natAbs) := by
      have hq := Int.emod_add_mul_ediv f.b (2 * (a.natAbs : Int))
      generalize f.b % (2 * (a.natAbs : Int)) = x at *
      generalize f.b / (2 * (a.natAbs : Int)) = q at *
      have hd : d = x * x + (4 * a.natAbs) * (x * q + a.natAbs * q * q - (if a < 0 then -1 else 1) * f.c) := by
        unfold Bin.disc at fd
        rw [fa, ← hq] at fd
        have hab : a = (if a < 0 then -1 else 1) * (a.natAbs : Int) := by split <;> omega
        generalize (if a < 0 then (-1 : Int) else 1) = sg at *
        rw [← fd]
        generalize (a.natAbs : Int) = A at *
        subst hab
        grind
      rw [hd, Int.add_mul_emod_self_left]
    generalize hx : f.b % (2 * (a.natAbs : Int)) = x at *
    obtain ⟨y, rfl⟩ := Int.eq_ofNat_of_zero_le h1
    have e2 : ((y * y % (4 * a.natAbs) : Nat) : Int) = d % (4 * a.natAbs) := by rw [← e1]; simp
    rw [Int.toNat_natCast]
    omega)
  rw [List.length_map] at this
  exact this

def sumTo : Nat → Nat
  | 0 => 0
  | n + 1 => sumTo n + mx (n + 1)

theorem flen (p : Bin → Bool) (f : Bin) (l : List Bin) : ((f :: l).filter p).length = (if p f = true then 1 else 0) + (l.filter p).length := by
  rw [List.filter_cons]; split <;> simp; omega

theorem filter_three (p q r u : Bin → Bool) (hp : ∀ f, p f = true → q f = true ∨ r f = true ∨ u f = true) : ∀ l : List Bin, (l.filter p).length ≤ (l.filter q).length + (l.filter r).length + (l.filter u).length
  | [] => by simp
  | f :: l => by
    have ih := filter_three p q r u hp l
    have hf := hp f
    have k : (if p f = true then 1 else 0) ≤ (if q f = true then 1 else 0) + (if r f = true then 1 else 0) + (if u f = true then 1 else 0) := by
      split
      · rename_i hh
        rcases hf hh with h | h | h <;> simp only [h, if_true] <;> omega
      · omega
    simp only [flen]
    omega

theorem filter_two (p q : Bin → Bool) : ∀ l : List Bin, (∀ f ∈ l, p f = true ∨ q f = true) → l.length ≤ (l.filter p).length + (l.filter q).length
  | [], _ => by simp
  | f :: l, h => by
    have ih := filter_two p q l (fun g hg => h g (by simp [hg]))
    have hf := h f (by simp)
    have k : 1 ≤ (if p f = true then 1 else 0) + (if q f = true then 1 else 0) := by
      rcases hf with h | h <;> simp only [h, if_true] <;> omega
    simp only [flen, List.length_cons]
    omega

theorem small_a {d s : Int} (h : Cross d s) (l : List Bin) (hn : l.Nodup) (hl : ∀ f ∈ l, f.disc = d ∧ Red s f) : ∀ n : Nat, n < 128 → (l.filter fun f => decide (sz f.a ≤ n)).length ≤ 2 * sumTo n
  | 0, _ => by
    rw [show (l.filter fun f => decide (sz f.a ≤ (0 : Nat))) = [] from by
      rw [List.filter_eq_nil_iff]
      intro f hf
      have := sz_pos (h.a_ne (hl f hf).1)
      simp; omega]
    simp
  | n + 1, hk => by
    have ih := small_a h l hn hl n (by omega)
    have h3 := filter_three (fun f => decide (sz f.a ≤ (n + 1 : Nat))) (fun f => decide (sz f.a ≤ n)) (fun f => decide (f.a = (n + 1 : Nat))) (fun f => decide (f.a = -((n + 1 : Nat) : Int))) (by
      intro f hf
      simp at hf ⊢
      unfold sz at *
      split at hf <;> simp_all <;> omega) l
    have b1 := one_a h (a := (n + 1 : Nat)) (by omega) (l.filter fun f => decide (f.a = (n + 1 : Nat))) (hn.filter _) (by
      intro f hf; rw [List.mem_filter, decide_eq_true_eq] at hf; exact ⟨hf.2, hl f hf.1⟩)
    have b2 := one_a h (a := -((n + 1 : Nat) : Int)) (by omega) (l.filter fun f => decide (f.a = -((n + 1 : Nat) : Int))) (hn.filter _) (by
      intro f hf; rw [List.mem_filter, decide_eq_true_eq] at hf; exact ⟨hf.2, hl f hf.1⟩)
    have e1 : (((n + 1 : Nat) : Int)).natAbs = n + 1 := by omega
    have e2 : (-((n + 1 : Nat) : Int)).natAbs = n + 1 := by omega
    rw [e1] at b1
    rw [e2] at b2
    have c1 := cnt_le (a := n + 1) (q := (d % (4 * (n + 1 : Nat))).toNat) (by omega) (by omega)
    simp only [sumTo]
    omega

def Bin.swap (f : Bin) : Bin := ⟨f.c, f.b, f.a⟩

theorem sumTo_127 : sumTo 127 ≤ 1000 := by decide +kernel

/-- Of a discriminant whose root is at most 255 there are at most 4000 reduced forms. -/
theorem red_few {d s : Int} (h : Cross d s) (hs : s ≤ 255) (l : List Bin) (hn : l.Nodup) (hl : ∀ f ∈ l, f.disc = d ∧ Red s f) : l.length ≤ 4000 := by
  have h0 := sumTo_127
  have t := filter_two (fun f => decide (sz f.a ≤ (127 : Nat))) (fun f => decide (sz f.c ≤ (127 : Nat))) l (by
    intro f hf
    obtain ⟨fd, fr⟩ := hl f hf
    have hac := sz_ac fd (fr.b_lt h)
    have hsq : s * s ≤ 255 * 255 := mul_self_le (by have := h.spos; omega) hs
    have hd : d < 256 * 256 := Int.lt_of_lt_of_le h.root.lt (mul_self_le (a := s + 1) (b := 256) (by have := h.spos; omega) (by omega))
    have hb := sq_nonneg f.b
    by_cases h1 : sz f.a ≤ 127
    · left; simpa using h1
    · right
      by_cases h2 : sz f.c ≤ 127
      · simpa using h2
      · exfalso
        have := Int.mul_le_mul (a := 128) (b := 128) (c := sz f.a) (d := sz f.c) (by omega) (by omega) (by omega) (sz_nonneg _)
        omega)
  have t1 := small_a h l hn hl 127 (by omega)
  have t2 := small_a h ((l.filter fun f => decide (sz f.c ≤ (127 : Nat))).map Bin.swap) (nodup_map _ _ (hn.filter _) (by
      intro f _ g _ e
      have e1 : f.swap.a = g.swap.a := by rw [e]
      have e2 : f.swap.b = g.swap.b := by rw [e]
      have e3 : f.swap.c = g.swap.c := by rw [e]
      exact Bin.ext' e3 e2 e1)) (by
      intro g hg
      rw [List.mem_map] at hg
      obtain ⟨f, hf, rfl⟩ := hg
      rw [List.mem_filter] at hf
      obtain ⟨fd, fr⟩ := hl f hf.1
      have hc := fr.c_side h fd
      refine ⟨?_, fr.1, fr.2.1, hc.1, hc.2⟩
      unfold Bin.disc at fd ⊢
      show f.b * f.b - 4 * f.c * f.a = d
      rw [← fd]; grind) 127 (by omega)
  rw [List.filter_eq_self.2 (by
      intro g hg
      rw [List.mem_map] at hg
      obtain ⟨f, hf, rfl⟩ := hg
      rw [List.mem_filter] at hf
      exact hf.2), List.length_map] at t2
  omega

/-- A cycle goes back. -/
theorem It_back {d s : Int} (h : Cross d s) : ∀ (i j : Nat) {f : Bin}, f.disc = d → Red s f → It d s i f = It d s (i + j) f → It d s j f = f
  | 0, j, f, _, _, e => by rw [Nat.zero_add] at e; exact e.symm
  | i + 1, j, f, hf, hr, e => by
    have e' : It d s i f = It d s (i + j) f := by
      refine nxt_inj h (It_disc h _ hf) (It_disc h _ hf) (It_red h _ hf hr) (It_red h _ hf hr) ?_
      rw [← It_succ', ← It_succ', e]; congr 1; omega
    exact It_back h i j hf hr e'

theorem exists_period {d s : Int} (h : Cross d s) (hs : s ≤ 255) {f : Bin} (hf : f.disc = d) (hr : Red s f) :
    ∃ n, 0 < n ∧ n ≤ 4096 ∧ It d s n f = f ∧ ∀ k, 0 < k → k < n → It d s k f ≠ f := by
  have hex : ∃ n, 0 < n ∧ n ≤ 4096 ∧ It d s n f = f := by
    by_cases hc : ∃ n, 0 < n ∧ n ≤ 4096 ∧ It d s n f = f
    · exact hc
    · exfalso
      have hnd : ((List.range 4097).map fun k => It d s k f).Nodup := by
        refine nodup_map _ _ List.nodup_range fun i hi j hj e => ?_
        rw [List.mem_range] at hi hj
        by_cases hij : i = j
        · exact hij
        · exfalso
          by_cases hlt : i < j
          · exact hc ⟨j - i, by omega, by omega, It_back h i (j - i) hf hr (by rw [show i + (j - i) = j by omega]; exact e)⟩
          · exact hc ⟨i - j, by omega, by omega, It_back h j (i - j) hf hr (by rw [show j + (i - j) = i by omega]; exact e.symm)⟩
      have := red_few h hs _ hnd (by
        intro g hg
        rw [List.mem_map] at hg
        obtain ⟨k, _, rfl⟩ := hg
        exact ⟨It_disc h _ hf, It_red h _ hf hr⟩)
      simp at this
  obtain ⟨n, h1, h2, h3⟩ := hex
  induction n using Nat.strongRecOn with
  | _ n ih =>
    by_cases hx : ∃ k, k < n ∧ 0 < k ∧ It d s k f = f
    · obtain ⟨k, hk, hk0, e⟩ := hx
      exact ih k hk hk0 (by omega) e
    · exact ⟨n, h1, h2, h3, fun k h0 hk e => hx ⟨k, hk, h0, e⟩⟩

end Pq

/- The primitive reduced forms of a discriminant, listed in two ways: one is the other sorted. No program here. -/
namespace Pq

theorem range_flat {α : Type} (g : Nat → List α) (n : Nat) : (List.range (n + 1)).flatMap g = (List.range n).flatMap g ++ g n := by
  rw [List.range_succ, List.flatMap_append]; simp

theorem pairwise_flat {α : Type} (R : α → α → Prop) (g : Nat → List α) (h1 : ∀ i, (g i).Pairwise R) (h2 : ∀ i j, i < j → ∀ f ∈ g i, ∀ h ∈ g j, R f h) : ∀ n, ((List.range n).flatMap g).Pairwise R
  | 0 => by simp
  | n + 1 => by
    rw [range_flat, List.pairwise_append]
    refine ⟨pairwise_flat R g h1 h2 n, h1 n, fun f hf h hh => ?_⟩
    rw [List.mem_flatMap] at hf
    obtain ⟨i, hi, hf⟩ := hf
    exact h2 i n (List.mem_range.1 hi) f hf h hh

/-- The common divisor of all three. -/
def prim (f : Bin) : Prop := Nat.gcd (Nat.gcd f.a.natAbs f.b.natAbs) f.c.natAbs = 1
instance (f : Bin) : Decidable (prim f) := by unfold prim; infer_instance

def okF (s : Int) (f : Bin) : Bool := decide (Red s f) && decide (prim f)

/-- As the program lists them. -/
def pairP (s b n a : Int) : List Bin := if n % a = 0 then [⟨a, b, (-n).tdiv a⟩, ⟨-a, b, n.tdiv a⟩].filter (okF s) else []
def rowP (s b n : Int) (k : Nat) : List Bin := (List.range k).flatMap fun i : Nat => pairP s b n (i + 1)
def listP (d s b0 : Int) (j : Nat) : List Bin := (List.range j).flatMap fun i : Nat => rowP s (b0 + 2 * i) ((d - (b0 + 2 * i) * (b0 + 2 * i)).tdiv 4) s.toNat

/-- As the document lists them. -/
def cellR (d s a b : Int) : List Bin := if (b * b - d).tmod (4 * a) = 0 then [⟨a, b, (b * b - d).tdiv (4 * a)⟩].filter (okF s) else []
def rowR (d s a : Int) (k : Nat) : List Bin := if a = 0 then [] else (List.range k).flatMap fun i : Nat => cellR d s a (i + 1)
def listR (d s : Int) (k : Nat) : List Bin := (List.range k).flatMap fun i : Nat => rowR d s (i - s) s.toNat

/-- Rising: by a, then b, then c. -/
def Lt (f g : Bin) : Prop := f.a < g.a ∨ f.a = g.a ∧ (f.b < g.b ∨ f.b = g.b ∧ f.c < g.c)

theorem Lt.irrefl (f : Bin) : ¬ Lt f f := by unfold Lt; omega
theorem Lt.trans {f g h : Bin} (a : Lt f g) (b : Lt g h) : Lt f h := by unfold Lt at *; omega
theorem Lt.asymm {f g : Bin} (a : Lt f g) : ¬ Lt g f := fun b => Lt.irrefl f (a.trans b)

theorem mem_pairP {s b n a : Int} {f : Bin} : f ∈ pairP s b n a ↔ n % a = 0 ∧ (f = ⟨a, b, (-n).tdiv a⟩ ∨ f = ⟨-a, b, n.tdiv a⟩) ∧ Red s f ∧ prim f := by
  unfold pairP
  split
  · rename_i h
    simp [List.mem_filter, okF, h]
  · rename_i h
    simp [h]

theorem mem_cellR {d s a b : Int} {f : Bin} : f ∈ cellR d s a b ↔ (b * b - d).tmod (4 * a) = 0 ∧ f = ⟨a, b, (b * b - d).tdiv (4 * a)⟩ ∧ Red s f ∧ prim f := by
  unfold cellR
  split
  · rename_i h
    rw [List.mem_filter, List.mem_singleton, okF, Bool.and_eq_true, decide_eq_true_eq, decide_eq_true_eq]
    exact ⟨fun ⟨x, y, z⟩ => ⟨h, x, y, z⟩, fun ⟨_, x, y, z⟩ => ⟨x, y, z⟩⟩
  · rename_i h
    simp [h]

theorem mem_listR {d s : Int} (hs : 0 ≤ s) {f : Bin} (hcr : Cross d s) : f ∈ listR d s (2 * s + 1).toNat ↔ f.disc = d ∧ Red s f ∧ prim f := by
  unfold listR
  rw [List.mem_flatMap]
  constructor
  · rintro ⟨i, _, hf⟩
    unfold rowR at hf
    split at hf
    · simp at hf
    · rename_i ha
      rw [List.mem_flatMap] at hf
      obtain ⟨j, _, hf⟩ := hf
      obtain ⟨h1, rfl, h3, h4⟩ := mem_cellR.1 hf
      refine ⟨?_, h3, h4⟩
      unfold Bin.disc
      simp only
      have := Int.tmod_add_mul_tdiv (((j : Int) + 1) * (j + 1) - d) (4 * ((i : Int) - s))
      rw [h1] at this
      omega
  · rintro ⟨hd, hr, hp⟩
    have ha := hcr.a_ne hd
    have hal := hr.a_le
    have hal2 := of_sz_le hal
    have hr' := hr
    obtain ⟨b1, b2, _, _⟩ := hr'
    refine ⟨(f.a + s).toNat, by rw [List.mem_range]; omega, ?_⟩
    unfold rowR
    rw [if_neg (by omega), List.mem_flatMap]
    refine ⟨(f.b - 1).toNat, by rw [List.mem_range]; omega, mem_cellR.2 ?_⟩
    have e1 : (((f.a + s).toNat : Int) - s) = f.a := by omega
    have e2 : (((f.b - 1).toNat : Int) + 1) = f.b := by omega
    rw [e1, e2]
    have e3 : f.b * f.b - d = (4 * f.a) * f.c := by unfold Bin.disc at hd; omega
    rw [e3]
    refine ⟨Int.mul_tmod_right _ _, ?_, hr, hp⟩
    rw [Int.mul_tdiv_cancel_left _ (by omega)]

theorem mem_listP {d s b0 : Int} {j : Nat} (hcr : Cross d s) (hb0 : b0 = 2 - d % 2) (hm : d % 4 ≤ 1) (hj : s < b0 + 2 * j) (hj2 : b0 + 2 * j ≤ s + 2) {f : Bin} : f ∈ listP d s b0 j ↔ f.disc = d ∧ Red s f ∧ prim f := by
  unfold listP
  rw [List.mem_flatMap]
  constructor
  · rintro ⟨i, hi, hf⟩
    unfold rowP at hf
    rw [List.mem_flatMap] at hf
    obtain ⟨k, hk, hf⟩ := hf
    obtain ⟨h1, h2, h3, h4⟩ := mem_pairP.1 hf
    rw [List.mem_range] at hi hk
    refine ⟨?_, h3, h4⟩
    generalize hb : b0 + 2 * (i : Int) = b at *
    have h4d : (d - b * b) % 4 = 0 := by
      have : b % 2 = d % 2 := by omega
      have h5 : b % 4 = 0 ∨ b % 4 = 1 ∨ b % 4 = 2 ∨ b % 4 = 3 := by omega
      have h6 : (b * b) % 4 = ((b % 4) * (b % 4)) % 4 := Int.mul_emod b b 4
      rcases h5 with h5 | h5 | h5 | h5 <;> rw [h5] at h6 <;> omega
    have hn : 4 * (d - b * b).tdiv 4 = d - b * b := by
      have := Int.mul_tdiv_cancel' (Int.dvd_of_emod_eq_zero h4d); exact this
    generalize (d - b * b).tdiv 4 = n at *
    have ht : n.tdiv (k + 1) * (k + 1) = n := Int.tdiv_mul_cancel (Int.dvd_of_emod_eq_zero h1)
    have ht2 : (-n).tdiv (k + 1) * (k + 1) = -n := Int.tdiv_mul_cancel (by rw [Int.dvd_neg]; exact Int.dvd_of_emod_eq_zero h1)
    rcases h2 with rfl | rfl
    · unfold Bin.disc; simp only; grind
    · unfold Bin.disc; simp only; grind
  · rintro ⟨hd, hr, hp⟩
    have ha := hcr.a_ne hd
    have hal := hr.a_le
    have hr' := hr
    obtain ⟨b1, b2, _, _⟩ := hr'
    have hpar : f.b % 2 = d % 2 := by
      have h5 : f.b % 4 = 0 ∨ f.b % 4 = 1 ∨ f.b % 4 = 2 ∨ f.b % 4 = 3 := by omega
      have h6 : (f.b * f.b) % 4 = ((f.b % 4) * (f.b % 4)) % 4 := Int.mul_emod f.b f.b 4
      have h7 : (f.b * f.b) % 4 = d % 4 := by unfold Bin.disc at hd; rw [Int.mul_assoc] at hd; omega
      rcases h5 with h5 | h5 | h5 | h5 <;> rw [h5] at h6 <;> omega
    refine ⟨((f.b - b0) / 2).toNat, by rw [List.mem_range]; omega, ?_⟩
    have e1 : b0 + 2 * (((f.b - b0) / 2).toNat : Int) = f.b := by omega
    rw [e1]
    unfold rowP
    rw [List.mem_flatMap]
    have hp1 := sz_pos ha
    refine ⟨(sz f.a - 1).toNat, by rw [List.mem_range]; omega, mem_pairP.2 ?_⟩
    have e2 : (((sz f.a - 1).toNat : Int) + 1) = sz f.a := by omega
    rw [e2]
    have e3 : (d - f.b * f.b).tdiv 4 = -(f.a * f.c) := by
      rw [show d - f.b * f.b = 4 * -(f.a * f.c) by unfold Bin.disc at hd; grind]
      exact Int.mul_tdiv_cancel_left _ (by omega)
    rw [e3]
    rcases sz_cases f.a with ⟨e, _⟩ | ⟨e, _⟩
    · rw [e]
      refine ⟨by rw [← Int.mul_neg]; exact Int.mul_emod_right _ _, .inl ?_, hr, hp⟩
      rw [Int.neg_neg, Int.mul_tdiv_cancel_left _ ha]
    · rw [e]
      refine ⟨by rw [show -(f.a * f.c) = -f.a * f.c by grind]; exact Int.mul_emod_right _ _, .inr ?_, hr, hp⟩
      rw [show -(f.a * f.c) = -f.a * f.c by grind, Int.mul_tdiv_cancel_left _ (by omega), Int.neg_neg]

theorem sorted_listR (d s : Int) (k : Nat) : (listR d s k).Pairwise Lt := by
  unfold listR
  refine pairwise_flat _ _ (fun i => ?_) (fun i j hij f hf g hg => ?_) k
  · unfold rowR
    split
    · exact List.Pairwise.nil
    · refine pairwise_flat _ _ (fun i => ?_) (fun i j hij f hf g hg => ?_) _
      · unfold cellR
        split
        · exact List.Pairwise.filter _ (List.pairwise_singleton _ _)
        · exact List.Pairwise.nil
      · obtain ⟨_, rfl, _, _⟩ := mem_cellR.1 hf
        obtain ⟨_, rfl, _, _⟩ := mem_cellR.1 hg
        exact .inr ⟨rfl, .inl (by show (i : Int) + 1 < (j : Int) + 1; omega)⟩
  · have key : ∀ (i : Nat) (f : Bin), f ∈ rowR d s ((i : Int) - s) s.toNat → f.a = (i : Int) - s := by
      intro i f hf
      unfold rowR at hf
      split at hf
      · simp at hf
      · rw [List.mem_flatMap] at hf
        obtain ⟨_, _, hf⟩ := hf
        obtain ⟨_, rfl, _, _⟩ := mem_cellR.1 hf
        rfl
    have h1 := key i f hf
    have h2 := key j g hg
    unfold Lt; omega

theorem nodup_listP (d s b0 : Int) (j : Nat) : (listP d s b0 j).Nodup := by
  unfold listP
  refine pairwise_flat _ _ (fun i => ?_) (fun i j hij f hf g hg => ?_) j
  · unfold rowP
    refine pairwise_flat _ _ (fun i => ?_) (fun i j hij f hf g hg => ?_) _
    · unfold pairP
      split
      · refine List.Pairwise.filter _ ?_
        rw [List.pairwise_cons]
        refine ⟨?_, List.pairwise_singleton _ _⟩
        intro g hg
        rw [List.mem_singleton] at hg
        subst hg
        intro e
        have : ((i : Int) + 1) = -((i : Int) + 1) := congrArg Bin.a e
        omega
      · exact List.Pairwise.nil
    · obtain ⟨_, hf, _, _⟩ := mem_pairP.1 hf
      obtain ⟨_, hg, _, _⟩ := mem_pairP.1 hg
      intro e; subst e
      rcases hf with hf | hf <;> rcases hg with hg | hg <;> rw [hf] at hg <;> have := congrArg Bin.a hg <;> simp only at this <;> omega
  · have key : ∀ (i : Nat) (f : Bin), f ∈ rowP s (b0 + 2 * i) ((d - (b0 + 2 * i) * (b0 + 2 * i)).tdiv 4) s.toNat → f.b = b0 + 2 * i := by
      intro i f hf
      unfold rowP at hf
      rw [List.mem_flatMap] at hf
      obtain ⟨_, _, hf⟩ := hf
      obtain ⟨_, hf, _, _⟩ := mem_pairP.1 hf
      rcases hf with rfl | rfl <;> rfl
    have h1 := key i f hf
    have h2 := key j g hg
    intro e; subst e; omega

/-- Two sorted lists of the same things are one. -/
theorem eq_of_sorted : ∀ (l m : List Bin), l.Pairwise Lt → m.Pairwise Lt → (∀ f, f ∈ l ↔ f ∈ m) → l = m
  | [], [], _, _, _ => rfl
  | [], g :: m, _, _, h => by have := (h g).2 (by simp); simp at this
  | f :: l, [], _, _, h => by have := (h f).1 (by simp); simp at this
  | f :: l, g :: m, hl, hm, h => by
    rw [List.pairwise_cons] at hl hm
    have e : f = g := by
      have h1 := (h f).1 (by simp)
      have h2 := (h g).2 (by simp)
      rw [List.mem_cons] at h1 h2
      rcases h1 with h1 | h1
      · exact h1
      · rcases h2 with h2 | h2
        · exact h2.symm
        · exact absurd (hl.1 g h2) (Lt.asymm (hm.1 f h1))
    subst e
    congr 1
    refine eq_of_sorted l m hl.2 hm.2 fun x => ?_
    have hx := h x
    rw [List.mem_cons, List.mem_cons] at hx
    constructor
    · intro hxl
      rcases hx.1 (.inr hxl) with rfl | h3
      · exact absurd (hl.1 _ hxl) (Lt.irrefl _)
      · exact h3
    · intro hxm
      rcases hx.2 (.inr hxm) with rfl | h3
      · exact absurd (hm.1 _ hxm) (Lt.irrefl _)
      · exact h3

end Pq

/- How the cycles are gathered. No program here. -/
namespace Pq

/-- The k-th of a list of forms. -/
def nth (l : List Bin) (k : Nat) : Bin := l.getD k ⟨0, 0, 0⟩
theorem nth_eq {l : List Bin} {k : Nat} (h : k < l.length) : nth l k = l[k] := by
  unfold nth; simp [List.getD, h]
theorem nth_mem {l : List Bin} {k : Nat} (h : k < l.length) : nth l k ∈ l := by
  rw [nth_eq h]; exact List.getElem_mem h
theorem take_nth {l : List Bin} {k : Nat} (h : k < l.length) : l.take (k + 1) = l.take k ++ [nth l k] := by
  rw [nth_eq h, List.take_succ_eq_append_getElem h]
theorem drop_nth {l : List Bin} {k : Nat} (h : k < l.length) : l.drop k = nth l k :: l.drop (k + 1) := by
  rw [nth_eq h, List.drop_eq_getElem_cons h]

/-- The cycle of a form with the period n. -/
def cyc (d s : Int) (n : Nat) (f : Bin) : List Bin := (List.range n).map fun k => It d s k f

open Classical in
/-- The period of a form: the first number that brings it back. -/
noncomputable def per (d s : Int) (f : Bin) : Nat :=
  if h : ∃ n, 0 < n ∧ n ≤ 4096 ∧ It d s n f = f ∧ ∀ k, 0 < k → k < n → It d s k f ≠ f then Classical.choose h else 0
theorem per_spec {d s : Int} (h : Cross d s) (hs : s ≤ 255) {f : Bin} (hf : f.disc = d) (hr : Red s f) :
    0 < per d s f ∧ per d s f ≤ 4096 ∧ It d s (per d s f) f = f ∧ ∀ k, 0 < k → k < per d s f → It d s k f ≠ f := by
  unfold per
  rw [dif_pos (exists_period h hs hf hr)]
  exact Classical.choose_spec (exists_period h hs hf hr)

noncomputable def cy (d s : Int) (f : Bin) : List Bin := cyc d s (per d s f) f

/-- What is told after the first i forms. -/
noncomputable def outTo (d s : Int) (l : List Bin) : Nat → List (List Bin)
  | 0 => []
  | i + 1 => if nth l i ∈ (outTo d s l i).flatten then outTo d s l i else outTo d s l i ++ [cy d s (nth l i)]

theorem outTo_mem {d s : Int} {l : List Bin} (i : Nat) (h : nth l i ∈ (outTo d s l i).flatten) : outTo d s l (i + 1) = outTo d s l i := by
  rw [outTo, if_pos h]
theorem outTo_new {d s : Int} {l : List Bin} (i : Nat) (h : nth l i ∉ (outTo d s l i).flatten) : outTo d s l (i + 1) = outTo d s l i ++ [cy d s (nth l i)] := by
  rw [outTo, if_neg h]
theorem outTo_len (d s : Int) (l : List Bin) (i : Nat) : (outTo d s l i).length ≤ i := by
  induction i with
  | zero => exact Nat.le_refl 0
  | succ i ih =>
    rw [outTo]
    split
    · omega
    · rw [List.length_append, List.length_singleton]; omega

/-- Flags of a list: which of its things are in S. -/
def flags (l S : List Bin) : List Bool := l.map fun f => decide (f ∈ S)
theorem flags_nil (l : List Bin) : flags l [] = List.replicate l.length false := by
  unfold flags
  rw [List.eq_replicate_iff]
  refine ⟨by rw [List.length_map], fun b hb => ?_⟩
  rw [List.mem_map] at hb
  obtain ⟨f, _, rfl⟩ := hb
  exact decide_eq_false (by intro h; cases h)
/-- While f is being marked: the first t are marked. -/
def marks (l S : List Bin) (f : Bin) (t : Nat) : List Bool := (l.take t).map (fun x => decide (x ∈ S ++ [f])) ++ (l.drop t).map (fun x => decide (x ∈ S))
theorem marks_zero (l S : List Bin) (f : Bin) : marks l S f 0 = flags l S := by simp [marks, flags]
theorem marks_all (l S : List Bin) (f : Bin) (t : Nat) (h : l.length ≤ t) : marks l S f t = flags l (S ++ [f]) := by
  unfold marks flags; rw [List.take_of_length_le h, List.drop_of_length_le h]; simp
theorem marks_len (l S : List Bin) (f : Bin) (t : Nat) : (marks l S f t).length = l.length := by simp [marks]; omega
theorem marks_hit {l S : List Bin} {f : Bin} {t : Nat} (h : t < l.length) (e : nth l t = f) : marks l S f (t + 1) = (marks l S f t).set t true := by
  unfold marks
  rw [take_nth h, drop_nth h, List.map_append, List.map_cons, List.set_append_right _ _ (by simp; omega)]
  simp [Nat.min_eq_left (Nat.le_of_lt h), e]
theorem marks_miss {l S : List Bin} {f : Bin} {t : Nat} (h : t < l.length) (e : nth l t ≠ f) : marks l S f (t + 1) = marks l S f t := by
  unfold marks
  rw [take_nth h, drop_nth h, List.map_append, List.map_cons]
  simp [e]
theorem flags_at {l S : List Bin} {k : Nat} (h : k < l.length) : (flags l S)[k]? = some (decide (nth l k ∈ S)) := by
  unfold flags; rw [nth_eq h]; simp [h]
theorem marks_at {l S : List Bin} {f : Bin} {t : Nat} (h : t < l.length) : (marks l S f t)[t]? = some (decide (nth l t ∈ S)) := by
  unfold marks
  rw [List.getElem?_append_right (by simp; omega), drop_nth h]
  simp [Nat.min_eq_left (Nat.le_of_lt h)]

end Pq

/- Words and imports that all walks share. -/
namespace Go.Proofs.Ytljhbjkdifmonaa
open Go.RowKit Pq

theorem ret_bool {a b : Bool} (h : a = b) : Ending.returned (.bool a) = .returned (.bool b) := by rw [h]
theorem ret_int {k : IntKind} {a b : Int} (h : a = b) : Ending.returned (.int k a) = .returned (.int k b) := by rw [h]

theorem bcell {W w1 : World} (hb : Below W.heap.size W w1) : (∀ b o, b < W.heap.size → w1.cell? ⟨b, o, none⟩ = W.cell? ⟨b, o, none⟩) ∧ (∀ b o, b < W.heap.size → w1.frozen? ⟨b, o, none⟩ = W.frozen? ⟨b, o, none⟩) :=
  ⟨fun b o h => hb.cell (p := ⟨b, o, none⟩) h, fun b o h => hb.frozen (p := ⟨b, o, none⟩) h⟩

/-- Block g is just the cells cs of the element type t. -/
def Blk (w : World) (g : Nat) (t : TypeId) (cs : Array Value) : Prop := w.heap[g]? = some (.cells cs t (0, 0))

section
variable {w w' : World} {g : Nat} {t : TypeId} {cs : Array Value}
theorem Blk.lt (h : Blk w g t cs) : g < w.heap.size := by
  rcases Nat.lt_or_ge g w.heap.size with hlt | hge
  · exact hlt
  · unfold Blk at h; rw [Array.getElem?_eq_none hge] at h; cases h
theorem Blk.cell (h : Blk w g t cs) (i : Nat) : w.cell? ⟨g, i, none⟩ = cs[i]? := cell_of_row w g i cs t (0, 0) h
theorem Blk.frozen (h : Blk w g t cs) (i : Nat) : w.frozen? ⟨g, i, none⟩ = false := by
  unfold Blk at h
  simp [World.frozen?, h]
theorem Blk.new (w : World) (t : TypeId) (cs : Array Value) : Blk (w.alloc (.cells cs t)) w.heap.size t cs := heap_alloc_new w _
theorem Blk.drew (h : Blk w g t cs) : Blk w.drew g t cs := h
theorem Blk.drewN (h : Blk w g t cs) (n : Nat) : Blk (w.drewN n) g t cs := h
theorem Blk.alloc (h : Blk w g t cs) (o : Obj) : Blk (w.alloc o) g t cs := (Below.heap_alloc w o g h.lt).trans h
theorem Blk.set_ (h : Blk w g t cs) (i : Nat) (u : Value) : Blk (w.setCell ⟨g, i, none⟩ u) g t (cs.setIfInBounds i u) := by
  unfold Blk at h ⊢
  simp [World.setCell, Array.getElem?_modify, h]
theorem Blk.far (h : Blk w g t cs) {p : Addr} (hp : g ≠ p.block) (u : Value) : Blk (w.setCell p u) g t cs := (Below.heap_setCell w p u g hp).trans h
theorem Blk.below {B : Nat} (h : Blk w g t cs) (hb : Below B w w') (hg : g < B) : Blk w' g t cs := (hb.block g hg).trans h
theorem Blk.grown {row : Option Nat} (h : Blk w g t cs) (hb : w.grownBy w' row) (hg : some g ≠ row) : Blk w' g t cs := (hb.block g h.lt hg).trans h
theorem Blk.below' (h : Blk w g t cs) (hb : Below w.heap.size w w') : Blk w' g t cs := h.below hb h.lt
theorem Blk.ne_ {g' : Nat} {t' : TypeId} {cs' : Array Value} (h : Blk w g t cs) (h' : Blk w g' t' cs') (hne : t ≠ t') : g ≠ g' := by
  rintro rfl
  unfold Blk at h h'
  rw [h] at h'
  injection h' with h'
  injection h' with _ ht
  exact hne ht
end

theorem Blk.c3 {w : World} {g : Nat} {t : TypeId} {x y z : Value} (h : Blk w g t #[x, y, z]) : w.cell? ⟨g, 0, none⟩ = some x ∧ w.cell? ⟨g, 1, none⟩ = some y ∧ w.cell? ⟨g, 2, none⟩ = some z :=
  ⟨h.cell 0, h.cell 1, h.cell 2⟩
theorem Blk.c4 {w : World} {g : Nat} {t : TypeId} {x y z u : Value} (h : Blk w g t #[x, y, z, u]) : w.cell? ⟨g, 0, none⟩ = some x ∧ w.cell? ⟨g, 1, none⟩ = some y ∧ w.cell? ⟨g, 2, none⟩ = some z ∧ w.cell? ⟨g, 3, none⟩ = some u :=
  ⟨h.cell 0, h.cell 1, h.cell 2, h.cell 3⟩
theorem Blk.new2 (w : World) (o : Obj) (t : TypeId) (cs : Array Value) : Blk ((w.alloc o).alloc (.cells cs t)) (w.heap.size + 1) t cs := by
  simpa using Blk.new (w.alloc o) t cs

theorem Blk.put3 {w : World} {g : Nat} {t : TypeId} {x y z : Value} (h : Blk w g t #[x, y, z]) (a b c : Value) : Blk (((w.setCell ⟨g, 0, none⟩ a).setCell ⟨g, 1, none⟩ b).setCell ⟨g, 2, none⟩ c) g t #[a, b, c] :=
  ((h.set_ 0 a).set_ 1 b).set_ 2 c
theorem Blk.put4 {w : World} {g : Nat} {t : TypeId} {x y z u : Value} (h : Blk w g t #[x, y, z, u]) (a b c d : Value) : Blk ((((w.setCell ⟨g, 0, none⟩ a).setCell ⟨g, 1, none⟩ b).setCell ⟨g, 2, none⟩ c).setCell ⟨g, 3, none⟩ d) g t #[a, b, c, d] :=
  (((h.set_ 0 a).set_ 1 b).set_ 2 c).set_ 3 d
theorem Blk.far3 {w : World} {g : Nat} {t : TypeId} {cs : Array Value} (h : Blk w g t cs) {g' : Nat} (hn : g ≠ g') (a b c : Value) : Blk (((w.setCell ⟨g', 0, none⟩ a).setCell ⟨g', 1, none⟩ b).setCell ⟨g', 2, none⟩ c) g t cs :=
  ((h.far hn a).far hn b).far hn c
theorem Blk.far4 {w : World} {g : Nat} {t : TypeId} {cs : Array Value} (h : Blk w g t cs) {g' : Nat} (hn : g ≠ g') (a b c d : Value) : Blk ((((w.setCell ⟨g', 0, none⟩ a).setCell ⟨g', 1, none⟩ b).setCell ⟨g', 2, none⟩ c).setCell ⟨g', 3, none⟩ d) g t cs :=
  (((h.far hn a).far hn b).far hn c).far hn d
theorem below3 {B : Nat} {a w : World} (h : Below B a w) {g : Nat} (hg : B ≤ g) (x y z : Value) : Below B a (((w.setCell ⟨g, 0, none⟩ x).setCell ⟨g, 1, none⟩ y).setCell ⟨g, 2, none⟩ z) :=
  ((h.setCell hg x).setCell hg y).setCell hg z
theorem below4 {B : Nat} {a w : World} (h : Below B a w) {g : Nat} (hg : B ≤ g) (x y z u : Value) : Below B a ((((w.setCell ⟨g, 0, none⟩ x).setCell ⟨g, 1, none⟩ y).setCell ⟨g, 2, none⟩ z).setCell ⟨g, 3, none⟩ u) :=
  (((h.setCell hg x).setCell hg y).setCell hg z).setCell hg u
theorem below_drewN {B : Nat} {a w : World} (h : Below B a w) (n : Nat) : Below B a (w.drewN n) := ⟨h.os, h.tape, h.output, h.size, h.block⟩
theorem own_below {w w' : World} {base : Nat} {e : TypeId} {size : Nat} {v : Value} {n : Nat} {xs : List Value} (h : w.ownsRow base e size v n xs) (hb : Below w.heap.size w w') : w'.ownsRow base e size v n xs := by
  refine h.kept (row := none) ⟨hb.os, hb.tape, hb.output, hb.size, fun i hi _ => hb.block i hi⟩ ?_
  cases v.ownBlock
  · exact .inl rfl
  · exact .inr (by simp)
theorem own_base {w : World} {base base' : Nat} {e : TypeId} {size : Nat} {v : Value} {n : Nat} {xs : List Value} (h : w.ownsRow base e size v n xs) (hb : base' ≤ base) : w.ownsRow base' e size v n xs := by
  obtain ⟨h1, h2⟩ := h
  refine ⟨h1, ?_⟩
  rcases h2 with h2 | ⟨g, cap, cur, hv, hg, r⟩
  · exact .inl h2
  · exact .inr ⟨g, cap, cur, hv, Nat.le_trans hb hg, r⟩
theorem own_set3 {w : World} {base : Nat} {e : TypeId} {size : Nat} {v : Value} {n : Nat} {xs : List Value} (h : w.ownsRow base e size v n xs) {g : Nat} (hg : g < base) (x y z : Value) :
    (((w.setCell ⟨g, 0, none⟩ x).setCell ⟨g, 1, none⟩ y).setCell ⟨g, 2, none⟩ z).ownsRow base e size v n xs :=
  ownsRow_setCell_below (ownsRow_setCell_below (ownsRow_setCell_below h (by exact hg) _) (by exact hg) _) (by exact hg) _
theorem cell_far (w : World) {g g' : Nat} (i j : Nat) (u : Value) (h : g ≠ g') : (w.setCell ⟨g', j, none⟩ u).cell? ⟨g, i, none⟩ = w.cell? ⟨g, i, none⟩ :=
  World.cell?_of_block (w := w) (Below.heap_setCell w ⟨g', j, none⟩ u g h)

end Go.Proofs.Ytljhbjkdifmonaa

/- What has held of the world since a drawn region began. -/
namespace Go.Proofs.Ytljhbjkdifmonaa
open Go.RowKit Pq

/-- Since W nothing that was there has changed. (A name, so that the walk leaves it alone.) -/
def Since (W w' : World) : Prop := Below W.heap.size W w'
theorem Since.start (W : World) : Since W W.drew := (Below.refl _ _).drew
theorem Since.step {W W4 w5 : World} (hb : Below W4.heap.size W4 w5) (h : Since W W4) : Since W w5 := Below.trans h (hb.mono (Below.size h))
theorem Since.cell {W w' : World} (h : Since W w') {g i : Nat} {v : Option Value} (hc : W.cell? ⟨g, i, none⟩ = v) (hg : g < W.heap.size) : w'.cell? ⟨g, i, none⟩ = v := (Below.cell h (p := ⟨g, i, none⟩) hg).trans hc
theorem Since.frozen {W w' : World} (h : Since W w') {g i : Nat} {v : Bool} (hc : W.frozen? ⟨g, i, none⟩ = v) (hg : g < W.heap.size) : w'.frozen? ⟨g, i, none⟩ = v := (Below.frozen h (p := ⟨g, i, none⟩) hg).trans hc
theorem Since.out {W w' : World} (h : Since W w') : Below W.heap.size W w' := h
theorem bstep {B : Nat} {a W w' : World} (h : Below B a W) (hb : Below W.heap.size W w') (hB : B ≤ a.heap.size) : Below B a w' := h.trans (hb.mono (Nat.le_trans hB h.size))
theorem bstepA {B : Nat} {a W w' : World} {o : Obj} (h : Below B a W) (hb : Below (W.alloc o).heap.size (W.alloc o) w') (hB : B ≤ a.heap.size) : Below B a w' := bstep (h.alloc (Nat.le_trans hB h.size) o) hb hB
theorem bstepAA {B : Nat} {a W w' : World} {o o' : Obj} (h : Below B a W) (hb : Below ((W.alloc o).alloc o').heap.size ((W.alloc o).alloc o') w') (hB : B ≤ a.heap.size) : Below B a w' := bstepA (h.alloc (Nat.le_trans hB h.size) o) hb hB

end Go.Proofs.Ytljhbjkdifmonaa
