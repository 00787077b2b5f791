/- The shelf's contract for bits.Len64, laid at this program (lay-plain.mjs wrote the laying). -/
import Derived.Shelf.Small.Bits
import Derived.Shelf.Strconv.Itoa0
import Derived.Test.YtljhbjkdifmonaaProg
import Derived.Test.YtljhbjkdifmonaaG1
import Derived.Lib.BitFns
import Derived.Lib.ItoaNum
import Derived.BigRegion
import Derived.Laws.StructEq
namespace Go.Proofs.Ytljhbjkdifmonaa
open Go.Shelf
def lays129_ren : Go.Shelf.Ren := ⟨fun | 129 => 79 | n => n, fun | 53 => 91 | 3 => 3 | 4 => 4 | 46 => 94 | 5 => 5 | 9 => 9 | n => n, fun | n => n⟩
theorem lays129 : Go.Proofs.Lays.n129 Try.prog lays129_ren := {
  mixed := by kernel_rfl
  f129 := Try.func79.trans (congrArg some (by kernel_rfl))
  t3 := Try.underlying3
  a3 := Try.isAgg3
  z3 := Try.sizeOf3
  v3 := Try.zeroValue3
  t4 := Try.underlying4
  a4 := Try.isAgg4
  z4 := Try.sizeOf4
  v4 := Try.zeroValue4
  t5 := Try.underlying5
  a5 := Try.isAgg5
  z5 := Try.sizeOf5
  v5 := Try.zeroValue5
  t9 := Try.underlying9
  a9 := Try.isAgg9
  z9 := Try.sizeOf9
  v9 := Try.zeroValue9
  t46 := Try.underlying94
  a46 := Try.isAgg94
  z46 := Try.sizeOf94
  v46 := Try.zeroValue94
  t53 := Try.underlying91
  a53 := Try.isAgg91
  z53 := Try.sizeOf91
  v53 := Try.zeroValue91 }
theorem len64_laid (x : Int) (w : World) (h0 : 0 ≤ x) (h1 : x ≤ 18446744073709551615) :
    Calls Try.prog 79 #[.int .u64 x] w fun e w' => e = .returned (.int .i64 (Lib.bitLen x.toNat)) ∧ w' = w := Any.bits_Len64 lays129 x w h0 h1
end Go.Proofs.Ytljhbjkdifmonaa

namespace Go.Proofs.Ytljhbjkdifmonaa
open Go.RowKit Pq

theorem size_any (x : Int) (w : World) (h0 : -4611686018427387904 ≤ x) (h1 : x ≤ 4611686018427387904) :
    Calls Try.prog 80 #[.int .i64 x] w fun e w' => e = .returned (.int .i64 (sz x)) ∧ w = w' := by
  go_enter Try.func80, Try.ntmps80
  go_wp2
  all_goals (go_ret; exact ⟨ret_int (by unfold sz; split <;> omega), rfl⟩)

theorem len64_any (x : Int) (w : World) (h0 : 0 ≤ x) (h1 : x ≤ 18446744073709551615) :
    Calls Try.prog 79 #[.int .u64 x] w fun e w' => e = .returned (.int .i64 (Lib.bitLen x.toNat)) ∧ w = w' :=
  (len64_laid x w h0 h1).mono fun _ _ ⟨h, k⟩ => ⟨h, k.symm⟩

theorem len64_root (d s : Int) (h0 : 0 < d) (h1 : d < 4611686018427387904) (hs : IsRoot s d) :
    ∃ L : Int, 0 ≤ L ∧ L ≤ 62 ∧ (Lib.bitLen d.toNat : Int) = L ∧ s ≤ 2 ^ ((L + 1) / 2).toNat ∧ 1 ≤ (2 : Int) ^ ((L + 1) / 2).toNat ∧ (2 : Int) ^ ((L + 1) / 2).toNat ≤ 2147483648 := by
  obtain ⟨n, rfl⟩ := Int.eq_ofNat_of_zero_le (Int.le_of_lt h0)
  have hb := Lib.bitLenAux_bounds 64 n (by omega) (by omega)
  have hle := Lib.bitLen_le n 62 (by omega) (by omega)
  change _ ≤ Lib.bitLen n ∧ _ ∧ n < 2 ^ (Lib.bitLen n) at hb
  refine ⟨(Lib.bitLen n : Int), by omega, by omega, by simp, ?_⟩
  generalize Lib.bitLen n = L at hb hle
  have e : (((L : Int) + 1) / 2).toNat = (L + 1) / 2 := by omega
  rw [e]
  have hp : (n : Nat) < 2 ^ ((L + 1) / 2) * 2 ^ ((L + 1) / 2) := by
    rw [← Nat.pow_add]
    exact Nat.lt_of_lt_of_le hb.2.2 (Nat.pow_le_pow_right (by omega) (by omega))
  have hq : 2 ^ ((L + 1) / 2) ≤ 2 ^ 31 := Nat.pow_le_pow_right (by omega) (by omega)
  have hr : 1 ≤ 2 ^ ((L + 1) / 2) := Nat.one_le_two_pow
  have c : ((2 ^ ((L + 1) / 2) : Nat) : Int) = (2 : Int) ^ ((L + 1) / 2) := by simp
  generalize 2 ^ ((L + 1) / 2) = X at hp hq hr c
  rw [← c]
  refine ⟨?_, by omega, by omega⟩
  have : s < X := lt_of_mul_self_lt (by omega) (by
    have := hs.le
    have : ((X * X : Nat) : Int) = (X : Int) * X := by simp
    simp at this
    omega)
  omega

set_option maxHeartbeats 400000 in
theorem root_any (d s : Int) (w : World) (h0 : 0 ≤ d) (h1 : d < 4611686018427387904) (hs : IsRoot s d) :
    Calls Try.prog 45 #[.int .i64 d] w fun e w' => e = .returned (.int .i64 s) ∧ w = w' := by
  by_cases hd : d = 0
  · go_enter Try.func45, Try.ntmps45
    go_wp2
    go_ret
    exact ⟨ret_int (IsRoot.unique ⟨by omega, by omega, by omega⟩ hs), rfl⟩
  · have hb : (d == 0) = false := by simpa using hd
    obtain ⟨L, l0, l1, hl, l2, l3, l4⟩ := len64_root d s (by omega) h1 hs
    have hc := fun W => len64_any d W h0 (by omega)
    rw [hl] at hc
    clear hl
    go_enter Try.func45, Try.ntmps45
    go_wp2_with (go_at_call 79; refine (hc _).mono ?_; rintro e w' ⟨rfl, rfl⟩)
    generalize (2 : Int) ^ ((L + 1) / 2).toNat = X at l2 l3 l4 ⊢
    clear hc l0 l1
    go_loop [3] (fun v => ∃ x : Int, v = .int .i64 x ∧ s ≤ x ∧ 1 ≤ x ∧ x ≤ 2147483648) (fun v => (intOf v).toNat)
    case atStart => exact ⟨X, rfl, l2, l3, l4⟩
    case round =>
      obtain ⟨x, rfl, k0, k1, k2⟩ := hrel
      have n1 := newton_ge hs (show 0 < x by omega)
      have q0 : 0 ≤ d / x := Int.ediv_nonneg h0 (by omega)
      have q1 : d / x ≤ d := Int.ediv_le_self _ h0
      have sp := hs.pos (show 0 < d by omega)
      by_cases hy : x ≤ (x + d / x) / 2
      · go_wp2
        go_ret
        exact ⟨ret_int (newton_stop hs (show 0 < x by omega) k0 hy), rfl⟩
      · go_wp2
        go_round
        case rel => exact ⟨_, rfl, n1, by omega, by omega⟩
        case measure => simp [intOf]; omega

end Go.Proofs.Ytljhbjkdifmonaa

namespace Go.Proofs.Ytljhbjkdifmonaa
open Go.RowKit Pq

theorem nan_any (x : Int) (w : World) : Calls Try.prog 107 #[.int .i64 x] w fun e w' => e = .returned (.bool false) ∧ w = w' := by
  have h : (x != x) = false := by simp
  go_enter Try.func107, Try.ntmps107
  go_wp2
  go_ret
  exact ⟨rfl, rfl⟩

def cmpI (x y : Int) : Int := if x < y then -1 else if y < x then 1 else 0
theorem cmp_any (x y : Int) (w : World) : Calls Try.prog 84 #[.int .i64 x, .int .i64 y] w fun e w' => e = .returned (.int .i64 (cmpI x y)) ∧ w = w' := by
  go_enter Try.func84, Try.ntmps84
  go_wp2_with (go_at_call 107; refine (nan_any _ _).mono ?_; rintro e w' ⟨rfl, rfl⟩)
  all_goals (go_ret; exact ⟨ret_int (by unfold cmpI; repeat (split <;> try omega)), rfl⟩)

theorem disc_any (a b c : Int) (w : World) (h1 : 0 ≤ b * b) (h2 : b * b ≤ 1152921504606846976) (h0 : -1073741824 ≤ a) (h00 : a ≤ 1073741824) (h3 : -4611686018427387904 ≤ 4 * a * c) (h4 : 4 * a * c ≤ 4611686018427387904) :
    Calls Try.prog 57 #[.agg #[.int .i64 a, .int .i64 b, .int .i64 c]] w fun e w' => e = .returned (.int .i64 (b * b - 4 * a * c)) ∧ Below w.heap.size w w' := by
  go_enter Try.func57, Try.ntmps57
  go_wp2
  go_ret
  exact ⟨rfl, (Below.refl _ _).alloc (Nat.le_refl _) _⟩

theorem cross_true (d s : Int) (w : World) (h : Cross d s) (h1 : d < 1152921504606846976) (h2 : d % 4 ≤ 1) :
    Calls Try.prog 44 #[.int .i64 d] w fun e w' => e = .returned (.bool true) ∧ w = w' := by
  have hr := fun W => root_any d s W (by have := h.pos; omega) (by omega) h.root
  have hn : (s * s != d) = true := by simpa using h.nsq
  have l0 : 0 ≤ s * s := sq_nonneg s
  have l1 : s * s ≤ d := h.root.le
  have l2 := h.pos
  clear h
  go_enter Try.func44, Try.ntmps44
  go_wp2_with (go_at_call 45; refine (hr _).mono ?_; rintro e w' ⟨rfl, rfl⟩)
  go_ret
  exact ⟨rfl, rfl⟩

theorem cross_false1 (d : Int) (w : World) (h1 : d < 1 ∨ 1152921504606846976 ≤ d ∨ 1 < d % 4) :
    Calls Try.prog 44 #[.int .i64 d] w fun e w' => e = .returned (.bool false) ∧ w = w' := by
  by_cases ha : d < 1
  · clear h1
    go_enter Try.func44, Try.ntmps44
    go_wp2
    go_ret
    exact ⟨rfl, rfl⟩
  by_cases hb : 1152921504606846976 ≤ d
  · clear h1
    go_enter Try.func44, Try.ntmps44
    go_wp2
    go_ret
    exact ⟨rfl, rfl⟩
  have hc : 1 < d % 4 := by omega
  clear h1
  go_enter Try.func44, Try.ntmps44
  go_wp2
  go_ret
  exact ⟨rfl, rfl⟩

theorem cross_false2 (s : Int) (w : World) (h : 0 ≤ s) (h0 : 1 ≤ s * s) (h1 : s * s < 1152921504606846976) (h2 : s * s % 4 ≤ 1) :
    Calls Try.prog 44 #[.int .i64 (s * s)] w fun e w' => e = .returned (.bool false) ∧ w = w' := by
  have hr := fun W => root_any (s * s) s W (by omega) (by omega) ⟨h, by omega, by grind⟩
  have hn : (s * s != s * s) = false := by simp
  go_enter Try.func44, Try.ntmps44
  go_wp2_with (go_at_call 45; refine (hr _).mono ?_; rintro e w' ⟨rfl, rfl⟩)
  go_ret
  exact ⟨rfl, rfl⟩

end Go.Proofs.Ytljhbjkdifmonaa

namespace Go.Proofs.Ytljhbjkdifmonaa
open Go.RowKit Pq

theorem red_true (a b c s : Int) (w : World) (ha : -1073741824 ≤ a ∧ a ≤ 1073741824) (hb : -1073741824 ≤ b ∧ b ≤ 1073741824) (h : Red s ⟨a, b, c⟩) :
    Calls Try.prog 46 #[.agg #[.int .i64 a, .int .i64 b, .int .i64 c], .int .i64 s] w fun e w' => e = .returned (.bool true) ∧ Below w.heap.size w w' := by
  obtain ⟨h1, h2, h3, h4⟩ := h
  simp only at h1 h2 h3 h4
  have hz := sz_nonneg a
  have hz1 := sz_le ha
  have hc := fun W => size_any a W (by omega) (by omega)
  obtain ⟨ha1, ha2⟩ := ha
  obtain ⟨hb1, hb2⟩ := hb
  generalize sz a = z at *
  go_enter Try.func46, Try.ntmps46
  go_wp2_with (go_at_call 80; refine (hc _).mono ?_; rintro e w' ⟨rfl, rfl⟩)
  go_ret
  exact ⟨rfl, (Below.refl _ _).alloc (Nat.le_refl _) _⟩

theorem red_false (a b c s : Int) (w : World) (ha : -1073741824 ≤ a ∧ a ≤ 1073741824) (hb : -1073741824 ≤ b ∧ b ≤ 1073741824) (h : ¬ Red s ⟨a, b, c⟩) :
    Calls Try.prog 46 #[.agg #[.int .i64 a, .int .i64 b, .int .i64 c], .int .i64 s] w fun e w' => e = .returned (.bool false) ∧ Below w.heap.size w w' := by
  have h' : ¬ (1 ≤ b ∧ b ≤ s ∧ s < b + 2 * sz a ∧ 2 * sz a - b ≤ s) := h
  clear h
  have hz := sz_nonneg a
  have hz1 := sz_le ha
  have hc := fun W => size_any a W (by omega) (by omega)
  obtain ⟨ha1, ha2⟩ := ha
  obtain ⟨hb1, hb2⟩ := hb
  generalize sz a = z at *
  by_cases k1 : 1 ≤ b
  · by_cases k2 : b ≤ s
    · by_cases k3 : s < b + 2 * z
      · have k4 : s < 2 * z - b := by omega
        clear h'
        go_enter Try.func46, Try.ntmps46
        go_wp2_with (go_at_call 80; refine (hc _).mono ?_; rintro e w' ⟨rfl, rfl⟩)
        go_ret
        exact ⟨ret_bool (by simp; omega), (Below.refl _ _).alloc (Nat.le_refl _) _⟩
      · clear h'
        go_enter Try.func46, Try.ntmps46
        go_wp2_with (go_at_call 80; refine (hc _).mono ?_; rintro e w' ⟨rfl, rfl⟩)
        go_ret
        exact ⟨rfl, (Below.refl _ _).alloc (Nat.le_refl _) _⟩
    · clear h'
      go_enter Try.func46, Try.ntmps46
      go_wp2_with (go_at_call 80; refine (hc _).mono ?_; rintro e w' ⟨rfl, rfl⟩)
      go_ret
      exact ⟨rfl, (Below.refl _ _).alloc (Nat.le_refl _) _⟩
  · clear h'
    go_enter Try.func46, Try.ntmps46
    go_wp2_with (go_at_call 80; refine (hc _).mono ?_; rintro e w' ⟨rfl, rfl⟩)
    go_ret
    exact ⟨rfl, (Below.refl _ _).alloc (Nat.le_refl _) _⟩

end Go.Proofs.Ytljhbjkdifmonaa

namespace Go.Proofs.Ytljhbjkdifmonaa
open Go.RowKit Pq

theorem wrapI (n : Int) (h0 : -9223372036854775808 ≤ n) (h1 : n ≤ 9223372036854775807) : IntKind.i64.wrap n = n := by
  rw [IntKind.wrap_i64]; omega

/-- How the code takes the rest from 0 on. -/
theorem rest_of (x m : Int) (hm : 0 < m) : (x.tmod m < 0 → -m < x.tmod m ∧ x.tmod m + m = x % m) ∧ (0 ≤ x.tmod m → x.tmod m = x % m ∧ x.tmod m < m) := by
  have h1 := Int.emod_nonneg x (b := m) (by omega)
  have h2 := Int.emod_lt_of_pos x hm
  have e := Int.tmod_eq_emod (a := x) (b := m)
  by_cases hx : 0 ≤ x ∨ m ∣ x
  · rw [if_pos hx] at e; omega
  · rw [if_neg hx] at e; omega

theorem tdiv_bound (x y B : Int) (h0 : -B ≤ x) (h1 : x ≤ B) : -B ≤ x.tdiv y ∧ x.tdiv y ≤ B := by
  have h : (x.tdiv y).natAbs ≤ x.natAbs := by rw [Int.natAbs_tdiv]; exact Nat.div_le_self _ _
  omega

set_option maxHeartbeats 2000000 in
theorem next_case (a b c d s z p T m : Int) (w : World) (hb1 : -1073741824 ≤ b) (hb2 : b ≤ 1073741824) (hc1 : -1073741824 ≤ c) (hc2 : c ≤ 1073741824)
    (hs1 : 0 ≤ s) (hs2 : s ≤ 1073741824) (hT1 : 0 ≤ T) (hT2 : T ≤ 1073741824) (hT : (s < z → T = z) ∧ (z ≤ s → T = s))
    (hz : ∀ W, Calls Try.prog 80 #[.int .i64 c] W fun e w' => e = .returned (.int .i64 z) ∧ W = w') (hz1 : 1 ≤ z) (hz2 : z ≤ 1073741824)
    (hm : (T + b) % (2 * z) = m) (hm1 : 0 ≤ m) (hm2 : m ≤ 2147483648) (hp : T - m = p)
    (hp1 : -1073741824 ≤ p) (hp2 : p ≤ 1073741824) (hq1 : 0 ≤ p * p) (hq2 : p * p ≤ 1152921504606846976) (hd1 : 0 ≤ d) (hd2 : d ≤ 1152921504606846976)
    (hc4 : (4 * c == 0) = false) (hc2' : (2 * c == 0) = false) :
    Calls Try.prog 58 #[.agg #[.int .i64 a, .int .i64 b, .int .i64 c], .int .i64 d, .int .i64 s] w fun e w' =>
      e = .returned (.tuple #[.agg #[.int .i64 c, .int .i64 p, .int .i64 ((p * p - d).tdiv (4 * c))], .agg #[.int .i64 0, .int .i64 (-1), .int .i64 1, .int .i64 ((b + p).tdiv (2 * c))]]) ∧ Below w.heap.size w w' := by
  have HT := Lib.hid hT
  have HM := Lib.hid hm
  have HR := Lib.hid (rest_of (T + b) (2 * z) (by omega))
  clear hT hm
  go_enter Try.func58, Try.ntmps58
  go_upto_if 19 with (go_at_call 80; refine (hz _).mono ?_; rintro e w' ⟨rfl, rfl⟩)
  go_cut [8, 9] (fun u v wc => u = .int .i64 (2 * z) ∧ v = .int .i64 T ∧ wc = ((w.alloc (Obj.cells #[Value.int IntKind.i64 a, Value.int IntKind.i64 b, Value.int IntKind.i64 c] 23)).alloc (Obj.cells #[Value.int IntKind.i64 0, Value.int IntKind.i64 0, Value.int IntKind.i64 0] 23)).alloc (Obj.cells #[Value.int IntKind.i64 0, Value.int IntKind.i64 0, Value.int IntKind.i64 0, Value.int IntKind.i64 0] 35))
  case first =>
    by_cases hx : s < z
    · go_wp2
      go_meet
      exact ⟨rfl, by rw [HT.out.1 hx], rfl⟩
    · go_wp2
      go_meet
      exact ⟨rfl, by rw [HT.out.2 (by omega)], rfl⟩
  case rest =>
    obtain ⟨rfl, rfl, rfl⟩ := hcut
    go_upto_if 29 with fail
    go_cut [10] (fun v wc => v = .int .i64 m ∧ wc = ((w.alloc (Obj.cells #[Value.int IntKind.i64 a, Value.int IntKind.i64 b, Value.int IntKind.i64 c] 23)).alloc (Obj.cells #[Value.int IntKind.i64 0, Value.int IntKind.i64 0, Value.int IntKind.i64 0] 23)).alloc (Obj.cells #[Value.int IntKind.i64 0, Value.int IntKind.i64 0, Value.int IntKind.i64 0, Value.int IntKind.i64 0] 35))
    case first =>
      by_cases hx : (T + b).tmod (2 * z) < 0
      · have hy := (HR.out.1 hx).1
        go_wp2
        go_meet
        exact ⟨by rw [(HR.out.1 hx).2, HM.out], rfl⟩
      · have hy := (HR.out.2 (by omega)).2
        go_wp2
        go_meet
        exact ⟨by rw [(HR.out.2 (by omega)).1, HM.out], rfl⟩
    case rest =>
      obtain ⟨rfl, rfl⟩ := hcut
      have e1 : IntKind.i64.wrap (p * p) = p * p := wrapI _ (by omega) (by omega)
      have e2 : IntKind.i64.wrap (p * p - d) = p * p - d := wrapI _ (by omega) (by omega)
      have e3 : IntKind.i64.wrap (4 * c) = 4 * c := wrapI _ (by omega) (by omega)
      have e4 : IntKind.i64.wrap (2 * c) = 2 * c := wrapI _ (by omega) (by omega)
      have e5 : IntKind.i64.wrap (b + p) = b + p := wrapI _ (by omega) (by omega)
      have n4 : (4 * c = 0) = False := by simpa using hc4
      have n2 : (2 * c = 0) = False := by simpa using hc2'
      have b1 := tdiv_bound (p * p - d) (4 * c) 1152921504606846976 (by omega) (by omega)
      have b2 := tdiv_bound (b + p) (2 * c) 2147483648 (by omega) (by omega)
      obtain ⟨b11, b12⟩ := b1
      obtain ⟨b21, b22⟩ := b2
      go_wp2
      go_region
      go_wp2
      refine bodyPost_ret (v := .tuple #[.agg #[.int .i64 c, .int .i64 p, .int .i64 ((p * p - d).tdiv (4 * c))], .agg #[.int .i64 0, .int .i64 (-1), .int .i64 1, .int .i64 ((b + p).tdiv (2 * c))]]) (by simp [results, Try.results58, go_sem]) rfl ⟨rfl, ?_⟩
      exact ((((Below.refl _ _).alloc (Nat.le_refl _) _).alloc (by simp) _).alloc (by simp; omega) _).drew

def turnN (s : Int) (f : Bin) : Int := (f.b + nb s f).tdiv (2 * f.c)

theorem next_any (f : Bin) (d s : Int) (w : World) (hw : Within 1073741824 f) (h : Cross d s) (hd : d < 1152921504606846976) (hf : f.disc = d) :
    Calls Try.prog 58 #[.agg #[.int .i64 f.a, .int .i64 f.b, .int .i64 f.c], .int .i64 d, .int .i64 s] w fun e w' =>
      e = .returned (.tuple #[.agg #[.int .i64 (nxt d s f).a, .int .i64 (nxt d s f).b, .int .i64 (nxt d s f).c], .agg #[.int .i64 0, .int .i64 (-1), .int .i64 1, .int .i64 (turnN s f)]]) ∧ Below w.heap.size w w' := by
  have hc0 := h.c_ne hf
  have hp := sz_pos hc0
  have hl := sz_le hw.c
  have hs : s < 1073741824 := lt_of_mul_self_lt (by omega) (by have := h.lt; omega)
  have hn := (nxt_within h hs hf hw).b
  change _ ≤ nb s f ∧ nb s f ≤ _ at hn
  have hsq : nb s f * nb s f ≤ 1073741824 * 1073741824 := by
    rw [← sz_mul_self (nb s f)]; exact mul_self_le (sz_nonneg _) (sz_le hn)
  have hpos := h.spos
  have hm0 := Int.emod_nonneg (top s f + f.b) (b := 2 * sz f.c) (by omega)
  have hm1 := Int.emod_lt_of_pos (top s f + f.b) (b := 2 * sz f.c) (by omega)
  refine next_case f.a f.b f.c d s (sz f.c) (nb s f) (top s f) _ w hw.b.1 hw.b.2 hw.c.1 hw.c.2 (by omega) (by omega) ?_ ?_ ?_ (fun W => size_any f.c W (by have := hw.c; omega) (by have := hw.c; omega)) (by omega) (by omega) rfl hm0 (by omega) rfl hn.1 hn.2 (sq_nonneg _) hsq (by have := h.pos; omega) (by omega) (by simpa using by omega) (by simpa using by omega)
  · unfold top; split <;> omega
  · unfold top; split <;> omega
  · unfold top; constructor <;> intro _ <;> split <;> omega

end Go.Proofs.Ytljhbjkdifmonaa

namespace Go.Proofs.Ytljhbjkdifmonaa
open Go.RowKit Pq

theorem ix0 (x y z : Int) (w : World) : (Instr.index 77 (.agg #[.int .i64 x, .int .i64 y, .int .i64 z]) (.int .i64 0)).run Try.prog w = .ok (.int .i64 x) w := by kernel_rfl
theorem ix1 (x y z : Int) (w : World) : (Instr.index 77 (.agg #[.int .i64 x, .int .i64 y, .int .i64 z]) (.int .i64 1)).run Try.prog w = .ok (.int .i64 y) w := by kernel_rfl
theorem ix2 (x y z : Int) (w : World) : (Instr.index 77 (.agg #[.int .i64 x, .int .i64 y, .int .i64 z]) (.int .i64 2)).run Try.prog w = .ok (.int .i64 z) w := by kernel_rfl

/-- All coefficients are within. -/
theorem check_in (a b c r : Int) (v : Bool) (w : World) (ha1 : -1073741824 ≤ a) (ha2 : a ≤ 1073741824) (hb1 : -1073741824 ≤ b) (hb2 : b ≤ 1073741824) (hc1 : -1073741824 ≤ c) (hc2 : c ≤ 1073741824)
    (hx : ∀ W, Calls Try.prog 44 #[.int .i64 (b * b - 4 * a * c)] W fun e w' => e = .returned (.bool v) ∧ W = w') (hr : r = if v = true then 0 else 80)
    (h1 : 0 ≤ b * b) (h2 : b * b ≤ 1152921504606846976) (h3 : -4611686018427387904 ≤ 4 * a * c) (h4 : 4 * a * c ≤ 4611686018427387904) :
    Calls Try.prog 19 #[.agg #[.int .i64 a, .int .i64 b, .int .i64 c]] w fun e w' => e = .returned (.int .i64 r) ∧ Below w.heap.size w w' := by
  have i0 := fun W => ix0 a b c W
  have i1 := fun W => ix1 a b c W
  have i2 := fun W => ix2 a b c W
  have HR := Lib.hid hr
  clear hr
  go_enter Try.func19, Try.ntmps19
  go_wp2_with fail
  go_loop [12] (fun v => ∃ k : Nat, k ≤ 3 ∧ v = .int .i64 k) (fun v => 3 - (intOf v).toNat)
  case atStart => exact ⟨0, by omega, rfl⟩
  case round =>
    obtain ⟨k, hk, rfl⟩ := hrel
    rcases (show k = 0 ∨ k = 1 ∨ k = 2 ∨ k = 3 by omega) with rfl | rfl | rfl | rfl
    · go_wp2
      go_round
      case rel => exact ⟨1, by omega, rfl⟩
      case measure => simp [intOf]
    · go_wp2
      go_round
      case rel => exact ⟨2, by omega, rfl⟩
      case measure => simp [intOf]
    · go_wp2
      go_round
      case rel => exact ⟨3, by omega, rfl⟩
      case measure => simp [intOf]
    · cases v with
      | true =>
        go_wp2_with (first | (go_at_call 57; refine (disc_any a b c _ (by omega) (by omega) (by omega) (by omega) (by omega) (by omega)).mono ?_; rintro e w' ⟨rfl, hb⟩) | (go_at_call 44; refine (hx _).mono ?_; rintro e w' ⟨rfl, rfl⟩))
        go_ret
        exact ⟨ret_int (by rw [HR.out]; rfl), ((Below.refl _ _).alloc (Nat.le_refl _) _).trans (hb.mono (by simp))⟩
      | false =>
        go_wp2_with (first | (go_at_call 57; refine (disc_any a b c _ (by omega) (by omega) (by omega) (by omega) (by omega) (by omega)).mono ?_; rintro e w' ⟨rfl, hb⟩) | (go_at_call 44; refine (hx _).mono ?_; rintro e w' ⟨rfl, rfl⟩))
        go_ret
        exact ⟨ret_int (by rw [HR.out]; rfl), ((Below.refl _ _).alloc (Nat.le_refl _) _).trans (hb.mono (by simp))⟩

/-- One of them is not. -/
theorem check_out (a b c : Int) (w : World) (h : ¬ Within 1073741824 ⟨a, b, c⟩) :
    Calls Try.prog 19 #[.agg #[.int .i64 a, .int .i64 b, .int .i64 c]] w fun e w' => e = .returned (.int .i64 3) ∧ Below w.heap.size w w' := by
  have i0 := fun W => ix0 a b c W
  have i1 := fun W => ix1 a b c W
  have i2 := fun W => ix2 a b c W
  have hn : ¬ ((-1073741824 ≤ a ∧ a ≤ 1073741824) ∧ (-1073741824 ≤ b ∧ b ≤ 1073741824) ∧ (-1073741824 ≤ c ∧ c ≤ 1073741824)) := fun ⟨x, y, z⟩ => h ⟨x, y, z⟩
  clear h
  have HN := Lib.hid hn
  go_enter Try.func19, Try.ntmps19
  go_wp2_with fail
  go_loop [12] (fun v => ∃ k : Nat, k ≤ 3 ∧ v = .int .i64 k ∧ (0 < k → -1073741824 ≤ a ∧ a ≤ 1073741824) ∧ (1 < k → -1073741824 ≤ b ∧ b ≤ 1073741824) ∧ (2 < k → -1073741824 ≤ c ∧ c ≤ 1073741824)) (fun v => 3 - (intOf v).toNat)
  case atStart => exact ⟨0, by omega, rfl, by omega, by omega, by omega⟩
  case round =>
    obtain ⟨k, hk, rfl, k1, k2, k3⟩ := hrel
    have HK := Lib.hid (And.intro k1 (And.intro k2 k3))
    clear k1 k2 k3 hn
    rcases (show k = 0 ∨ k = 1 ∨ k = 2 ∨ k = 3 by omega) with rfl | rfl | rfl | rfl
    · by_cases x1 : a < -1073741824
      · go_wp2
        go_ret
        exact ⟨rfl, (Below.refl _ _).alloc (Nat.le_refl _) _⟩
      by_cases x2 : 1073741824 < a
      · go_wp2
        go_ret
        exact ⟨rfl, (Below.refl _ _).alloc (Nat.le_refl _) _⟩
      go_wp2
      go_round
      case rel => exact ⟨1, by omega, rfl, by omega, by omega, by omega⟩
      case measure => simp [intOf]
    · by_cases x1 : b < -1073741824
      · go_wp2
        go_ret
        exact ⟨rfl, (Below.refl _ _).alloc (Nat.le_refl _) _⟩
      by_cases x2 : 1073741824 < b
      · go_wp2
        go_ret
        exact ⟨rfl, (Below.refl _ _).alloc (Nat.le_refl _) _⟩
      go_wp2
      go_round
      case rel => exact ⟨2, by omega, rfl, fun _ => HK.out.1 (by omega), by omega, by omega⟩
      case measure => simp [intOf]
    · by_cases x1 : c < -1073741824
      · go_wp2
        go_ret
        exact ⟨rfl, (Below.refl _ _).alloc (Nat.le_refl _) _⟩
      by_cases x2 : 1073741824 < c
      · go_wp2
        go_ret
        exact ⟨rfl, (Below.refl _ _).alloc (Nat.le_refl _) _⟩
      go_wp2
      go_round
      case rel => exact ⟨3, by omega, rfl, fun _ => HK.out.1 (by omega), fun _ => HK.out.2.1 (by omega), by omega⟩
      case measure => simp [intOf]
    · exact absurd ⟨HK.out.1 (by omega), HK.out.2.1 (by omega), HK.out.2.2 (by omega)⟩ HN.out

end Go.Proofs.Ytljhbjkdifmonaa

namespace Go.Proofs.Ytljhbjkdifmonaa
open Go.RowKit Pq

def or3 (x y z : Int) : Int := if x ≠ 0 then x else if y ≠ 0 then y else z

theorem or_any (x y z : Int) (B c : Nat) (w : World) (h0 : w.cell? ⟨B, 0, none⟩ = some (.int .i64 x)) (h1 : w.cell? ⟨B, 1, none⟩ = some (.int .i64 y)) (h2 : w.cell? ⟨B, 2, none⟩ = some (.int .i64 z)) :
    Calls Try.prog 83 #[.slice (some ⟨B, 0, none⟩) 3 c] w fun e w' => e = .returned (.int .i64 (or3 x y z)) ∧ w = w' := by
  go_enter Try.func83, Try.ntmps83
  go_wp2
  go_loop [8] (fun v => ∃ k : Nat, k ≤ 3 ∧ v = .int .i64 k ∧ (0 < k → x = 0) ∧ (1 < k → y = 0) ∧ (2 < k → z = 0)) (fun v => 3 - (intOf v).toNat)
  case atStart => exact ⟨0, by omega, rfl, by omega, by omega, by omega⟩
  case round =>
    obtain ⟨k, hk, rfl, k1, k2, k3⟩ := hrel
    have HK := Lib.hid (And.intro k1 (And.intro k2 k3))
    clear k1 k2 k3
    rcases (show k = 0 ∨ k = 1 ∨ k = 2 ∨ k = 3 by omega) with rfl | rfl | rfl | rfl
    · by_cases e : x = 0
      · have hx := Lib.hid e
        have hb : (x != 0) = false := by simpa using e
        clear e
        go_wp2
        go_round
        case rel => exact ⟨1, by omega, rfl, fun _ => hx.out, by omega, by omega⟩
        case measure => simp [intOf]
      · have hb : (x != 0) = true := by simpa using e
        go_wp2
        go_ret
        exact ⟨ret_int (by unfold or3; rw [if_pos e]), rfl⟩
    · by_cases e : y = 0
      · have hx := Lib.hid e
        have hb : (y != 0) = false := by simpa using e
        clear e
        go_wp2
        go_round
        case rel => exact ⟨2, by omega, rfl, fun _ => HK.out.1 (by omega), fun _ => hx.out, by omega⟩
        case measure => simp [intOf]
      · have hb : (y != 0) = true := by simpa using e
        go_wp2
        go_ret
        exact ⟨ret_int (by unfold or3; rw [HK.out.1 (by omega)]; simp [e]), rfl⟩
    · by_cases e : z = 0
      · have hx := Lib.hid e
        have hb : (z != 0) = false := by simpa using e
        clear e
        go_wp2
        go_round
        case rel => exact ⟨3, by omega, rfl, fun _ => HK.out.1 (by omega), fun _ => HK.out.2.1 (by omega), fun _ => hx.out⟩
        case measure => simp [intOf]
      · have hb : (z != 0) = true := by simpa using e
        go_wp2
        go_ret
        exact ⟨ret_int (by unfold or3; rw [HK.out.1 (by omega), HK.out.2.1 (by omega)]; simp), rfl⟩
    · go_wp2
      go_ret
      exact ⟨ret_int (by unfold or3; rw [HK.out.1 (by omega), HK.out.2.1 (by omega), HK.out.2.2 (by omega)]; simp), rfl⟩

def risesI (f g : Bin) : Int := or3 (cmpI f.a g.a) (cmpI f.b g.b) (cmpI f.c g.c)

set_option maxHeartbeats 1000000 in
theorem rises_any (a b c x y z : Int) (w : World) :
    Calls Try.prog 49 #[.agg #[.int .i64 a, .int .i64 b, .int .i64 c], .agg #[.int .i64 x, .int .i64 y, .int .i64 z]] w fun e w' => e = .returned (.int .i64 (risesI ⟨a, b, c⟩ ⟨x, y, z⟩)) ∧ w' = (((w.alloc (Obj.cells #[Value.int IntKind.i64 a, Value.int IntKind.i64 b, Value.int IntKind.i64 c] 23)).alloc (Obj.cells #[Value.int IntKind.i64 x, Value.int IntKind.i64 y, Value.int IntKind.i64 z] 23)).alloc (Obj.cells #[Value.int IntKind.i64 (cmpI a x), Value.int IntKind.i64 (cmpI b y), Value.int IntKind.i64 (cmpI c z)] 3)).drew := by
  go_enter Try.func49, Try.ntmps49
  go_wp2_with fail
  go_region_held3 (fun w' => w'.cell? ⟨w.heap.size, 0, none⟩ = some (.int .i64 a) ∧ w'.cell? ⟨w.heap.size, 1, none⟩ = some (.int .i64 b) ∧ w'.cell? ⟨w.heap.size, 2, none⟩ = some (.int .i64 c) ∧ w'.cell? ⟨w.heap.size + 1, 0, none⟩ = some (.int .i64 x) ∧ w'.cell? ⟨w.heap.size + 1, 1, none⟩ = some (.int .i64 y) ∧ w'.cell? ⟨w.heap.size + 1, 2, none⟩ = some (.int .i64 z)) (go_keep)
    (first
      | (go_at_call 84; refine (cmp_any _ _ _).mono ?_; rintro e w' ⟨rfl, rfl⟩)
      | (go_at_call 83; refine (or_any (cmpI a x) (cmpI b y) (cmpI c z) _ _ _ (by go_simp) (by go_simp) (by go_simp)).mono ?_; rintro e w' ⟨rfl, rfl⟩))
  go_wp2
  go_ret
  exact ⟨rfl, rfl⟩

end Go.Proofs.Ytljhbjkdifmonaa

namespace Go.Proofs.Ytljhbjkdifmonaa
open Go.RowKit Pq

/-- The k-th of three. -/
def pick3 (a b c : Int) (k : Nat) : Int := if k = 0 then a else if k = 1 then b else c
/-- The common divisor of the first k of them. -/
def gcdTo (a b c : Int) : Nat → Nat
  | 0 => 0
  | k + 1 => Nat.gcd (gcdTo a b c k) (pick3 a b c k).natAbs
theorem ixk (x y z : Int) (k : Nat) (h : k < 3) (w : World) : (Instr.index 77 (.agg #[.int .i64 x, .int .i64 y, .int .i64 z]) (.int .i64 k)).run Try.prog w = .ok (.int .i64 (pick3 x y z k)) w := by
  rcases (show k = 0 ∨ k = 1 ∨ k = 2 by omega) with rfl | rfl | rfl
  · exact ix0 x y z w
  · exact ix1 x y z w
  · exact ix2 x y z w
theorem pick3_in {a b c M : Int} (k : Nat) (ha : -M ≤ a ∧ a ≤ M) (hb : -M ≤ b ∧ b ≤ M) (hc : -M ≤ c ∧ c ≤ M) : -M ≤ pick3 a b c k ∧ pick3 a b c k ≤ M := by
  unfold pick3; split
  · exact ha
  · split
    · exact hb
    · exact hc
theorem sz_natAbs (x : Int) : sz x = (x.natAbs : Int) := by unfold sz; split <;> omega
theorem gcdTo_le {a b c M : Int} (ha : -M ≤ a ∧ a ≤ M) (hb : -M ≤ b ∧ b ≤ M) (hc : -M ≤ c ∧ c ≤ M) (k : Nat) : (gcdTo a b c k : Int) ≤ M := by
  induction k with
  | zero => simp [gcdTo]; omega
  | succ k ih =>
    simp only [gcdTo]
    by_cases h : (pick3 a b c k).natAbs = 0
    · rw [h, Nat.gcd_zero_right]; exact ih
    · have := Nat.gcd_le_right (gcdTo a b c k) (Nat.pos_of_ne_zero h)
      have := pick3_in k ha hb hc
      omega

set_option maxHeartbeats 1000000 in
theorem prime_any (a b c : Int) (w : World) (ha : -1073741824 ≤ a ∧ a ≤ 1073741824) (hb : -1073741824 ≤ b ∧ b ≤ 1073741824) (hc : -1073741824 ≤ c ∧ c ≤ 1073741824) :
    Calls Try.prog 47 #[.agg #[.int .i64 a, .int .i64 b, .int .i64 c]] w fun e w' => e = .returned (.bool (decide (gcdTo a b c 3 = 1))) ∧ Below w.heap.size w w' := by
  go_enter Try.func47, Try.ntmps47
  go_wp2_with fail
  go_loopw [3, 13] (fun g v wr => ∃ k : Nat, k ≤ 3 ∧ v = .int .i64 k ∧ g = .int .i64 (gcdTo a b c k) ∧ Below w.heap.size w wr) (fun _ v _ => 3 - (intOf v).toNat)
  case atStart => exact ⟨0, by omega, rfl, rfl, (Below.refl _ _).alloc (Nat.le_refl _) _⟩
  case round =>
    obtain ⟨k, hk, rfl, rfl, hbl⟩ := hrel
    by_cases hlt : k < 3
    · have ix := fun W => ixk a b c k hlt W
      have px := pick3_in k ha hb hc
      have gl := gcdTo_le ha hb hc k
      obtain ⟨px1, px2⟩ := px
      have hs := fun W => size_any (pick3 a b c k) W (by omega) (by omega)
      simp only [sz_natAbs] at hs
      have HG := Lib.hid (show gcdTo a b c (k + 1) = Nat.gcd (gcdTo a b c k) (pick3 a b c k).natAbs from rfl)
      have hx2 : ((pick3 a b c k).natAbs : Int) ≤ 1073741824 := by omega
      generalize (pick3 a b c k).natAbs = X at *
      generalize gcdTo a b c k = G at *
      go_wp2_with (go_at_call 80; refine (hs _).mono ?_; rintro e w' ⟨rfl, rfl⟩)
      go_loopw [3, 5] (fun g v wi => ∃ u x : Nat, g = .int .i64 u ∧ v = .int .i64 x ∧ (u : Int) ≤ 1073741824 ∧ (x : Int) ≤ 1073741824 ∧ Hid (Nat.gcd u x = Nat.gcd G X) ∧ Below w.heap.size w wi) (fun _ v _ => (intOf v).toNat)
      case atStart => exact ⟨G, X, rfl, rfl, gl, hx2, rfl, hbl⟩
      case round =>
        rename_i wo _ _ _ _ _ _ _ _ _ _ _ _
        obtain ⟨u, x, rfl, rfl, hu, hx, hg, hbi⟩ := hrel
        by_cases hp : 0 < x
        · have hxb : ((x : Int) == 0) = false := by simp; omega
          have hlt2 : (u : Int) % (x : Int) < x := Int.emod_lt_of_pos _ (by omega)
          have hge2 : 0 ≤ (u : Int) % (x : Int) := Int.emod_nonneg _ (by omega)
          go_wp2
          go_region
          go_wp2
          go_roundw
          case rel => exact ⟨x, u % x, rfl, by simp, hx, by simp; omega, by show Nat.gcd x (u % x) = _; rw [← hg.out, Nat.gcd_comm u x, Nat.gcd_rec x u, Nat.gcd_comm], hbi.drew⟩
          case measure => simp [intOf]; omega
        · obtain rfl : x = 0 := by omega
          have hgu : u = Nat.gcd G X := by rw [← hg.out, Nat.gcd_zero_right]
          have HGU := Lib.hid hgu
          clear hgu
          go_wp2
          go_roundw
          case rel => exact ⟨k + 1, by omega, by go_num, by rw [HG.out, HGU.out], hbi⟩
          case measure => simp [intOf]; omega
    · obtain rfl : k = 3 := by omega
      go_wp2
      go_ret
      exact ⟨ret_bool (by rw [Bool.eq_iff_iff, beq_iff_eq, decide_eq_true_iff]; omega), hbl⟩

end Go.Proofs.Ytljhbjkdifmonaa

namespace Go.Proofs.Ytljhbjkdifmonaa
open Go.RowKit Pq

theorem cross_any (d : Int) (w : World) : Calls Try.prog 44 #[.int .i64 d] w fun e w' => e = .returned (.bool (crossB d)) ∧ w = w' := by
  cases h : crossB d with
  | true =>
    obtain ⟨h1, h2, h3⟩ := crossB_true h
    exact cross_true d _ w h1 h2 h3
  | false =>
    rcases crossB_false h with h1 | ⟨h0, h1, h2, h3, h4⟩
    · exact cross_false1 d w h1
    · have := cross_false2 (rt d) w h0 (by omega) (by omega) (by rw [h1]; omega)
      rw [h1] at this
      exact this

theorem check_any (f : Bin) (w : World) : Calls Try.prog 19 #[.agg #[.int .i64 f.a, .int .i64 f.b, .int .i64 f.c]] w fun e w' => e = .returned (.int .i64 (chk f)) ∧ Below w.heap.size w w' := by
  cases h : inB f with
  | true =>
    have hw := inB_true h
    exact check_in f.a f.b f.c (chk f) (crossB f.disc) w hw.a.1 hw.a.2 hw.b.1 hw.b.2 hw.c.1 hw.c.2 (fun W => cross_any _ W) (by unfold chk; rw [if_pos h]) hw.bb.1 hw.bb.2 hw.ac.1 hw.ac.2
  | false =>
    have := check_out f.a f.b f.c w (inB_false h)
    unfold chk; rw [if_neg (by rw [h]; simp)]
    exact this

theorem red_any (f : Bin) (s : Int) (w : World) (hw : Within 1073741824 f) :
    Calls Try.prog 46 #[.agg #[.int .i64 f.a, .int .i64 f.b, .int .i64 f.c], .int .i64 s] w fun e w' => e = .returned (.bool (decide (Red s f))) ∧ Below w.heap.size w w' := by
  by_cases h : Red s f
  · rw [decide_eq_true h]; exact red_true f.a f.b f.c s w hw.a hw.b h
  · rw [decide_eq_false h]; exact red_false f.a f.b f.c s w hw.a hw.b h

theorem discf_any (f : Bin) (w : World) (hw : Within 1073741824 f) :
    Calls Try.prog 57 #[.agg #[.int .i64 f.a, .int .i64 f.b, .int .i64 f.c]] w fun e w' => e = .returned (.int .i64 f.disc) ∧ Below w.heap.size w w' :=
  disc_any f.a f.b f.c w hw.bb.1 hw.bb.2 hw.a.1 hw.a.2 hw.ac.1 hw.ac.2

end Go.Proofs.Ytljhbjkdifmonaa

namespace Go.Proofs.Ytljhbjkdifmonaa
open Go.RowKit Pq

theorem eqf1 {P : Program} {d : Nat} {xs ys : Array Value} {f : Field} {a b : Value} {r : Bool} {w : World} (hn : (f.name == "_") = false)
    (ha : (part f.type xs f.offset).run P w = .ok a w) (hb : (part f.type ys f.offset).run P w = .ok b w) (he : (Op.equalIn d f.type a b).run P w = .ok r w) : (Op.eqFields d xs ys [f]).run P w = .ok r w := by
  have hn' : f.name ≠ "_" := by simpa using hn
  simp only [Op.eqFields, if_pos hn', Sem.run_bind, ha, hb, he, Result.andThen_ok]
  cases r <;> simp
theorem eqf2 {P : Program} {d : Nat} {xs ys : Array Value} {f : Field} {fs : List Field} {a b : Value} {r s : Bool} {w : World} (hn : (f.name == "_") = false)
    (ha : (part f.type xs f.offset).run P w = .ok a w) (hb : (part f.type ys f.offset).run P w = .ok b w) (he : (Op.equalIn d f.type a b).run P w = .ok r w)
    (hr : (Op.eqFields d xs ys fs).run P w = .ok s w) : (Op.eqFields d xs ys (f :: fs)).run P w = .ok (r && s) w := by
  have hn' : f.name ≠ "_" := by simpa using hn
  rw [Op.eqFields]
  simp only [if_pos hn', Sem.run_bind, ha, hb, he, Result.andThen_ok]
  cases r
  · simp
  · simpa using hr

theorem eqA {P : Program} {d : Nat} {xs ys : Array Value} {r : Bool} {w : World} {t : TypeId} {fs : Array Field} (hu : P.underlying t = some (.struct fs)) (hp : P.stoodInHeld t = false)
    (h : (Op.eqFields d xs ys fs.toList).run P w = .ok r w) : (Op.equalIn (d + 1) t (.agg xs) (.agg ys)).run P w = .ok r w := by
  have hf : P.fieldsOf t = fs := by simp [Program.fieldsOf, hu]
  rw [run_equalIn_struct (P := P) w d t xs ys (by rw [hf]; exact hu) hp, hf]
  exact h

theorem eq23 (d : Nat) (w : World) (a b c x y z : Int) :
    (Op.equalIn (d + 2) 23 (.agg #[.int .i64 a, .int .i64 b, .int .i64 c]) (.agg #[.int .i64 x, .int .i64 y, .int .i64 z])).run Try.prog w = .ok (a == x && (b == y && c == z)) w := by
  refine eqA Try.underlying23 (by kernel_rfl) ?_
  refine eqf2 (by rfl) (by go_simp; rfl) (by go_simp; rfl) (by go_simp) ?_
  refine eqf2 (by rfl) (by go_simp; rfl) (by go_simp; rfl) (by go_simp) ?_
  exact eqf1 (by rfl) (by go_simp; rfl) (by go_simp; rfl) (by go_simp)

theorem neq23 (w : World) (f g : Bin) :
    (binOp .neq 23 (.agg #[.int .i64 f.a, .int .i64 f.b, .int .i64 f.c]) (.agg #[.int .i64 g.a, .int .i64 g.b, .int .i64 g.c])).run Try.prog w = .ok (.bool (!decide (f = g))) w := by
  have h := eq23 9998 w f.a f.b f.c g.a g.b g.c
  have e : (f.a == g.a && (f.b == g.b && f.c == g.c)) = decide (f = g) := by
    rw [Bool.eq_iff_iff]; simp
    constructor
    · rintro ⟨h1, h2, h3⟩; exact Bin.ext' h1 h2 h3
    · rintro rfl; simp
  rw [e] at h
  simp only [binOp]
  simp [Op.equal, Op.maxDepth, h]

theorem eql23 (w : World) (f g : Bin) :
    (binOp .eql 23 (.agg #[.int .i64 f.a, .int .i64 f.b, .int .i64 f.c]) (.agg #[.int .i64 g.a, .int .i64 g.b, .int .i64 g.c])).run Try.prog w = .ok (.bool (decide (f = g))) w := by
  have h := eq23 9998 w f.a f.b f.c g.a g.b g.c
  have e : (f.a == g.a && (f.b == g.b && f.c == g.c)) = decide (f = g) := by
    rw [Bool.eq_iff_iff]; simp
    constructor
    · rintro ⟨h1, h2, h3⟩; exact Bin.ext' h1 h2 h3
    · rintro rfl; simp
  rw [e] at h
  simp only [binOp]
  simp [Op.equal, Op.maxDepth, h]

end Go.Proofs.Ytljhbjkdifmonaa
