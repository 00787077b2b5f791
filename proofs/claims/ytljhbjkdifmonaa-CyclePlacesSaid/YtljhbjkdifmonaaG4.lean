import Derived.Test.YtljhbjkdifmonaaG3
import Derived.Test.YtljhbjkdifmonaaG2
import Derived.Laws.BitsAllLaws
import Derived.Laws.BitsLemmas
import Derived.Test.YtljhbjkdifmonaaG1
import Derived.Laws.MakeOwn
import Derived.Shelf.SlSortCmp.NoneTotal
import Derived.Test.YtljhbjkdifmonaaProg
import Derived.Maps.OwnOps
import Derived.MapKept
namespace Go.Proofs.Ytljhbjkdifmonaa
open Go.RowKit Pq

theorem ofInt_i64 (a : Nat) (ha : a < 9223372036854775808) : (BitVec.ofInt 64 (a : Int)).toNat = a := by
  rw [BitVec.ofInt_natCast, BitVec.toNat_ofNat]; exact Nat.mod_eq_of_lt (by omega)
theorem i64_and_nat (a b : Nat) (ha : a < 9223372036854775808) (hb : b < 9223372036854775808) : bits .and .i64 (a : Int) (b : Int) = ((a &&& b : Nat) : Int) := by
  have hx : a &&& b < 2 ^ 63 := Nat.and_lt_two_pow _ (by omega)
  show IntKind.i64.wrap ((BitVec.ofInt 64 (a : Int) &&& BitVec.ofInt 64 (b : Int)).toNat : Int) = _
  rw [BitVec.toNat_and, ofInt_i64 a ha, ofInt_i64 b hb, IntKind.wrap_i64]
  omega
theorem i64_xor_nat (a b : Nat) (ha : a < 9223372036854775808) (hb : b < 9223372036854775808) : bits .xor .i64 (a : Int) (b : Int) = ((a ^^^ b : Nat) : Int) := by
  have hx : a ^^^ b < 2 ^ 63 := Nat.xor_lt_two_pow (by omega) (by omega)
  show IntKind.i64.wrap ((BitVec.ofInt 64 (a : Int) ^^^ BitVec.ofInt 64 (b : Int)).toNat : Int) = _
  rw [BitVec.toNat_xor, ofInt_i64 a ha, ofInt_i64 b hb, IntKind.wrap_i64]
  omega

theorem xor_mod2 (x y : Nat) : (x ^^^ y) % 2 = (x + y) % 2 := by
  have h := Nat.xor_mod_two_pow (a := x) (b := y) (n := 1)
  rw [show 2 ^ 1 = 2 from rfl] at h
  rw [h, Nat.add_mod]
  rcases Nat.mod_two_eq_zero_or_one x with hx | hx <;> rcases Nat.mod_two_eq_zero_or_one y with hy | hy <;> rw [hx, hy] <;> rfl

theorem rest_of2 (x : Int) : (x.tmod 2 = 0 ↔ x % 2 = 0) := by
  constructor
  · intro h; have := Int.tmod_add_mul_tdiv x 2; omega
  · intro h; exact Int.tmod_eq_zero_of_dvd (Int.dvd_of_emod_eq_zero h)

/-- The principal form. -/
def princ (d : Int) : Bin := ⟨1, rt d - (rt d + d) % 2, ((rt d - (rt d + d) % 2) * (rt d - (rt d + d) % 2) - d).tdiv 4⟩

theorem princ_bad (d : Int) (w : World) (h : 65536 < d ∨ crossB d = false) : Calls Try.prog 11 #[.int .i64 d] w fun e w' => e = .returned (.tuple #[.agg #[.int .i64 0, .int .i64 0, .int .i64 0], .int .i64 80]) ∧ Below w.heap.size w w' := by
  have hc := fun W => cross_any d W
  by_cases h1 : 65536 < d
  · clear h
    go_enter Try.func11, Try.ntmps11
    go_wp2
    exact bodyPost_ret (v := .tuple #[.agg #[.int .i64 0, .int .i64 0, .int .i64 0], .int .i64 80]) (by simp [results, Try.results11, go_sem]) rfl ⟨rfl, (Below.refl _ _).alloc (Nat.le_refl _) _⟩
  · rw [show crossB d = false by rcases h with h | h; omega; exact h] at hc
    clear h
    go_enter Try.func11, Try.ntmps11
    go_wp2_with (go_at_call 44; refine (hc _).mono ?_; rintro e w' ⟨rfl, rfl⟩)
    exact bodyPost_ret (v := .tuple #[.agg #[.int .i64 0, .int .i64 0, .int .i64 0], .int .i64 80]) (by simp [results, Try.results11, go_sem]) rfl ⟨rfl, (Below.refl _ _).alloc (Nat.le_refl _) _⟩

theorem rprinc_bad (d : Int) (w : World) (h : 65536 < d ∨ crossB d = false) : Calls Try.prog 13 #[.int .i64 d] w fun e w' => e = .returned (.tuple #[.agg #[.int .i64 0, .int .i64 0, .int .i64 0], .int .i64 80]) ∧ Below w.heap.size w w' := by
  have hc := fun W => rcross_any d W
  cases hx : crossB d with
  | true =>
    rw [hx] at hc
    have h1 : 65536 < d := by rcases h with h | h; exact h; rw [hx] at h; cases h
    clear h hx
    go_enter Try.func13, Try.ntmps13
    go_wp2_with (go_at_call 51; refine (hc _).mono ?_; rintro e w' ⟨rfl, rfl⟩)
    exact bodyPost_ret (v := .tuple #[.agg #[.int .i64 0, .int .i64 0, .int .i64 0], .int .i64 80]) (by simp [results, Try.results13, go_sem]) rfl ⟨rfl, (Below.refl _ _).alloc (Nat.le_refl _) _⟩
  | false =>
    rw [hx] at hc
    clear h hx
    go_enter Try.func13, Try.ntmps13
    go_wp2_with (go_at_call 51; refine (hc _).mono ?_; rintro e w' ⟨rfl, rfl⟩)
    exact bodyPost_ret (v := .tuple #[.agg #[.int .i64 0, .int .i64 0, .int .i64 0], .int .i64 80]) (by simp [results, Try.results13, go_sem]) rfl ⟨rfl, (Below.refl _ _).alloc (Nat.le_refl _) _⟩

set_option maxRecDepth 100000 in
set_option maxHeartbeats 1000000 in
theorem princ_ok (d : Int) (w : World) (h1 : d ≤ 65536) (h : crossB d = true) : Calls Try.prog 11 #[.int .i64 d] w fun e w' => e = .returned (.tuple #[.agg #[.int .i64 (princ d).a, .int .i64 (princ d).b, .int .i64 (princ d).c], .int .i64 0]) ∧ Below w.heap.size w w' := by
  have hc := fun W => cross_any d W
  rw [h] at hc
  obtain ⟨hcr, h2, _⟩ := crossB_true h
  have hpos := hcr.pos
  have hr := fun W => root_any d (rt d) W (by omega) (by omega) hcr.root
  have hs0 := hcr.spos
  have hs1 : rt d < 257 := lt_of_mul_self_lt (by omega) (by have := hcr.lt; omega)
  have hp : princ d = ⟨1, rt d - (rt d + d) % 2, ((rt d - (rt d + d) % 2) * (rt d - (rt d + d) % 2) - d).tdiv 4⟩ := rfl
  generalize princ d = p at *
  clear hcr h
  generalize rt d = s at *
  obtain ⟨x, rfl⟩ := Int.eq_ofNat_of_zero_le (show 0 ≤ s by omega)
  obtain ⟨y, rfl⟩ := Int.eq_ofNat_of_zero_le (show 0 ≤ d by omega)
  have hx : bits .xor .i64 (x : Int) (y : Int) = ((x ^^^ y : Nat) : Int) := i64_xor_nat x y (by omega) (by omega)
  have hlt : x ^^^ y < 2 ^ 63 := Nat.xor_lt_two_pow (by omega) (by omega)
  have ha : bits .and .i64 ((x ^^^ y : Nat) : Int) 1 = ((x : Int) + y) % 2 := by
    have := i64_and_nat (x ^^^ y) 1 (by omega) (by omega)
    simp only [Nat.and_one_is_mod] at this
    rw [show (1 : Int) = ((1 : Nat) : Int) from rfl, this]
    have e : (x ^^^ y) % 2 = (x + y) % 2 := xor_mod2 x y
    rw [e]; omega
  generalize hB : ((x : Int) + y) % 2 = m at *
  have hm : 0 ≤ m ∧ m ≤ 1 := by omega
  obtain ⟨hm0, hm1⟩ := hm
  have HB := Lib.hid hB
  clear hB hlt h2
  generalize x ^^^ y = X at *
  generalize hb : (x : Int) - m = b at *
  have hbb0 : 0 ≤ b * b := sq_nonneg b
  have hbb1 : b * b ≤ 66049 := mul_self_le (a := b) (b := 257) (by omega) (by omega)
  have b1 := tdiv_bound (b * b - (y : Int)) 4 70000 (by omega) (by omega)
  obtain ⟨b11, b12⟩ := b1
  subst hp
  go_enter Try.func11, Try.ntmps11
  go_wp2_with (first | (go_at_call 44; refine (hc _).mono ?_; rintro e w' ⟨rfl, rfl⟩) | (go_at_call 45; refine (hr _).mono ?_; rintro e w' ⟨rfl, rfl⟩))
  exact bodyPost_ret (v := .tuple #[.agg #[.int .i64 1, .int .i64 b, .int .i64 ((b * b - (y : Int)).tdiv 4)], .int .i64 0]) (by simp [results, Try.results11, go_sem]) rfl ⟨rfl, (Below.refl _ _).alloc (Nat.le_refl _) _⟩

theorem rprinc_ok (d : Int) (w : World) (h1 : d ≤ 65536) (h : crossB d = true) : Calls Try.prog 13 #[.int .i64 d] w fun e w' => e = .returned (.tuple #[.agg #[.int .i64 (princ d).a, .int .i64 (princ d).b, .int .i64 (princ d).c], .int .i64 0]) ∧ Below w.heap.size w w' := by
  have hc := fun W => rcross_any d W
  rw [h] at hc
  obtain ⟨hcr, h2, _⟩ := crossB_true h
  have hpos := hcr.pos
  have hr := fun W => rroot_any d (rt d) W (by omega) (by omega) hcr.root
  have hs0 := hcr.spos
  have hs1 : rt d < 257 := lt_of_mul_self_lt (by omega) (by have := hcr.lt; omega)
  have hp : princ d = ⟨1, rt d - (rt d + d) % 2, ((rt d - (rt d + d) % 2) * (rt d - (rt d + d) % 2) - d).tdiv 4⟩ := rfl
  generalize princ d = p at *
  clear hcr h
  generalize rt d = s at *
  have q := rest_of2 (s - d)
  by_cases hB : (s + d) % 2 = 0
  · have t0 : ((s - d).tmod 2 != 0) = false := by simp; omega
    rw [hB, Int.sub_zero] at hp
    clear hB q
    have hbb0 : 0 ≤ s * s := sq_nonneg s
    have hbb1 : s * s ≤ 66049 := mul_self_le (a := s) (b := 257) (by omega) (by omega)
    have b1 := tdiv_bound (s * s - d) 4 70000 (by omega) (by omega)
    obtain ⟨b11, b12⟩ := b1
    subst hp
    go_enter Try.func13, Try.ntmps13
    go_wp2_with (first | (go_at_call 51; refine (hc _).mono ?_; rintro e w' ⟨rfl, rfl⟩) | (go_at_call 52; refine (hr _).mono ?_; rintro e w' ⟨rfl, rfl⟩))
    exact bodyPost_ret (v := .tuple #[.agg #[.int .i64 1, .int .i64 s, .int .i64 ((s * s - d).tdiv 4)], .int .i64 0]) (by simp [results, Try.results13, go_sem]) rfl ⟨rfl, (Below.refl _ _).alloc (Nat.le_refl _) _⟩
  · have t0 : ((s - d).tmod 2 != 0) = true := by simp; omega
    rw [show (s + d) % 2 = 1 by omega] at hp
    clear hB q
    have hbb0 : 0 ≤ (s - 1) * (s - 1) := sq_nonneg _
    have hbb1 : (s - 1) * (s - 1) ≤ 66049 := mul_self_le (a := s - 1) (b := 257) (by omega) (by omega)
    have b1 := tdiv_bound ((s - 1) * (s - 1) - d) 4 70000 (by omega) (by omega)
    obtain ⟨b11, b12⟩ := b1
    subst hp
    go_enter Try.func13, Try.ntmps13
    go_wp2_with (first | (go_at_call 51; refine (hc _).mono ?_; rintro e w' ⟨rfl, rfl⟩) | (go_at_call 52; refine (hr _).mono ?_; rintro e w' ⟨rfl, rfl⟩))
    exact bodyPost_ret (v := .tuple #[.agg #[.int .i64 1, .int .i64 (s - 1), .int .i64 (((s - 1) * (s - 1) - d).tdiv 4)], .int .i64 0]) (by simp [results, Try.results13, go_sem]) rfl ⟨rfl, (Below.refl _ _).alloc (Nat.le_refl _) _⟩

end Go.Proofs.Ytljhbjkdifmonaa

namespace Go.Proofs.Ytljhbjkdifmonaa
open Go.RowKit Pq

theorem rgcd_quiet (a b : Int) (w : World) (ha : -4611686018427387904 ≤ a ∧ a ≤ 4611686018427387904) (hb : -4611686018427387904 ≤ b ∧ b ≤ 4611686018427387904) :
    Calls Try.prog 86 #[.int .i64 a, .int .i64 b] w fun e w' => e = .returned (.int .i64 (Int.gcd a b)) ∧ w' = w :=
  (rgcd_any a b w ha hb).mono fun _ _ ⟨h, k⟩ => ⟨h, k.symm⟩

theorem rowR_zero (d s a : Int) : rowR d s a 0 = [] := by unfold rowR; split <;> simp
theorem rowR_nil (d s : Int) (k : Nat) : rowR d s 0 k = [] := by unfold rowR; simp
theorem rowR_succ {d s a : Int} (ha : a ≠ 0) (k : Nat) : rowR d s a (k + 1) = rowR d s a k ++ cellR d s a (k + 1) := by
  unfold rowR; rw [if_neg ha, if_neg ha, range_flat]
theorem listR_succ (d s : Int) (k : Nat) : listR d s (k + 1) = listR d s k ++ rowR d s (k - s) s.toNat := by
  unfold listR; rw [range_flat]

set_option maxRecDepth 100000 in
set_option maxHeartbeats 4000000 in
theorem listed_any (d s : Int) (w : World) (hcr : Cross d s) (hd : d ≤ 65536) :
    Calls Try.prog 53 #[.int .i64 d] w fun e w' => ∃ v, e = .returned v ∧ w'.ownsRow w.heap.size 23 3 v (listR d s (2 * s + 1).toNat).length (rowOf (listR d s (2 * s + 1).toNat)) ∧ Below w.heap.size w w' := by
  obtain ⟨i0, hi, hz0, hz1, hz2⟩ := info_parts info23
  have hroot := fun W => rroot_any d s W (by have := hcr.pos; omega) (by omega) hcr.root
  have hs0 := hcr.spos
  have hs1 : s < 257 := lt_of_mul_self_lt (by omega) (by have := hcr.lt; omega)
  have hd0 := hcr.pos
  obtain ⟨S, rfl⟩ := Int.eq_ofNat_of_zero_le (show 0 ≤ s by omega)
  have HC := Lib.hid hcr
  clear hcr
  have e2 : (2 * (S : Int) + 1).toNat = 2 * S + 1 := by omega
  rw [e2]
  clear e2
  go_enter Try.func53, Try.ntmps53
  go_wp2_with (go_at_call 52; refine (hroot _).mono ?_; rintro e w' ⟨rfl, rfl⟩)
  go_loopw [3, 5] (fun u v wr => ∃ (k n : Nat) (a : Int) (A : Option Addr) (c : Nat), u = .slice A n c ∧ v = .int .i64 a ∧ Hid (a = (k : Int) - S) ∧ -(S : Int) ≤ a ∧ a ≤ S + 1 ∧ n ≤ 256 * k ∧ k ≤ 600 ∧ Hid (n = (listR d S k).length) ∧ Hid (wr.ownsRow w.heap.size 23 3 (.slice A n c) n (rowOf (listR d S k))) ∧ Below w.heap.size w wr) (fun _ v _ => (S + 1 - intOf v).toNat)
  case atStart => exact ⟨0, 0, _, none, 0, rfl, rfl, by show _ = _; omega, by omega, by omega, by omega, by omega, by show _ = _; rfl, ⟨rfl, .inl ⟨rfl, rfl⟩⟩, Below.refl _ _⟩
  case round =>
    obtain ⟨k, n, a, A, c, rfl, rfl, ha, ha1, ha2, hn, hk, hlen, hown, hbl⟩ := hrel
    by_cases hlt : a ≤ S
    · go_wp2
      go_loopw [3, 6] (fun u v wi => ∃ (j m : Nat) (b : Int) (A : Option Addr) (c : Nat), u = .slice A m c ∧ v = .int .i64 b ∧ Hid (b = (j : Int) + 1) ∧ 1 ≤ b ∧ b ≤ S + 1 ∧ m ≤ 256 * k + j ∧ j ≤ S ∧ Hid (m = (listR d S k ++ rowR d S a j).length) ∧ Hid (wi.ownsRow w.heap.size 23 3 (.slice A m c) m (rowOf (listR d S k ++ rowR d S a j))) ∧ Below w.heap.size w wi) (fun _ v _ => (S + 1 - intOf v).toNat)
      case atStart => exact ⟨0, n, _, A, c, rfl, rfl, by show _ = _; rfl, by omega, by omega, by omega, by omega, by show _ = _; rw [rowR_zero, List.append_nil]; exact hlen.out, by show World.ownsRow _ _ _ _ _ _ _; rw [rowR_zero, List.append_nil]; exact hown.out, hbl⟩
      case round =>
        rename_i wo _ _ _ _ _ _ _ _ _ _ _ _ _ _ _ _ _ _ _ _ _ _ _ _ _ _ _ _ _ _ _ _ _ _ _ _ _ _ _ _ _ _ _ _ _ _ _ _ _ _ _ _ _
        obtain ⟨j, m, b, A', c', rfl, rfl, hb, hb1, hb2, hm, hj, hlen', hown', hbl'⟩ := hrel
        clear hlen hown hbl hroot
        by_cases ha0 : a = 0
        · have ha0b : (a != 0) = false := by simpa using ha0
          have HA := Lib.hid ha0
          clear ha0
          go_wp2
          all_goals
            go_roundw
            case rel =>
              have e : listR d S (k + 1) = listR d S k ++ rowR d S a j := by rw [listR_succ, ← ha.out, HA.out, rowR_nil, rowR_nil]
              exact ⟨k + 1, m, _, A', c', rfl, rfl, by show _ = _; have := ha.out; omega, by omega, by omega, by omega, by have := ha.out; omega, by show _ = _; rw [e]; exact hlen'.out, by show World.ownsRow _ _ _ _ _ _ _; rw [e]; exact hown'.out, hbl'⟩
            case measure => simp [intOf]; omega
        · have ha0b : (a != 0) = true := by simpa using ha0
          by_cases hlt2 : b ≤ S
          · have hbb0 : 0 ≤ b * b := sq_nonneg b
            have hbb1 : b * b ≤ 66049 := mul_self_le (a := b) (b := 257) (by omega) (by omega)
            have h4a : (4 * a == 0) = false := by simp; omega
            by_cases ht : (b * b - d).tmod (4 * a) = 0
            · have htb : ((b * b - d).tmod (4 * a) != 0) = false := by simpa using ht
              have HT := Lib.hid ht
              clear ht
              have hq := tdiv_bound (b * b - d) (4 * a) 70000 (by omega) (by omega)
              obtain ⟨hq1, hq2⟩ := hq
              have hdisc : (⟨a, b, (b * b - d).tdiv (4 * a)⟩ : Bin).disc = d := by
                have := Int.tmod_add_mul_tdiv (b * b - d) (4 * a)
                rw [HT.out] at this
                unfold Bin.disc; simp only; omega
              have hcell : Hid (cellR d S a (j + 1) = [⟨a, b, (b * b - d).tdiv (4 * a)⟩].filter (okF S)) := by
                show _ = _
                unfold cellR; rw [← hb.out, if_pos HT.out]
              have hred := fun W => rred_any ⟨a, b, (b * b - d).tdiv (4 * a)⟩ d S W ⟨⟨by show _ ≤ a; omega, by show a ≤ _; omega⟩, ⟨by show _ ≤ b; omega, by show b ≤ _; omega⟩, ⟨by show _ ≤ (b * b - d).tdiv (4 * a); omega, by show (b * b - d).tdiv (4 * a) ≤ _; omega⟩⟩ HC.out (by omega) hdisc
              have HD := Lib.hid hdisc
              clear hdisc
              have hprim : prim ⟨a, b, (b * b - d).tdiv (4 * a)⟩ ↔ Int.gcd (Int.gcd a b) ((b * b - d).tdiv (4 * a)) = 1 := Iff.rfl
              simp only at hred
              generalize hqe : (b * b - d).tdiv (4 * a) = q at *
              by_cases hR : Red S ⟨a, b, q⟩
              · rw [decide_eq_true hR] at hred
                have HR := Lib.hid hR
                clear hR
                have hG : (Int.gcd a b : Int) ≤ 257 := by
                  have := Int.gcd_le_natAbs_left (a := a) b ha0
                  omega
                have c1 := fun W => rgcd_quiet a b W (by omega) (by omega)
                have c2 := fun W => rgcd_quiet (Int.gcd a b : Int) q W (by omega) (by omega)
                have HPI := Lib.hid hprim
                clear hprim
                by_cases hP : prim ⟨a, b, q⟩
                · have hgb : ((Int.gcd (Int.gcd a b : Int) q : Int) == 1) = true := by
                    have := HPI.out.1 hP
                    rw [this]; rfl
                  have HP := Lib.hid hP
                  clear hP
                  generalize Int.gcd (Int.gcd a b : Int) q = G2 at *
                  generalize Int.gcd a b = G at *
                  go_wp2_with (go_at_call 85; refine (hred _).mono ?_; rintro e w5 ⟨rfl, hb5⟩; obtain ⟨hc5, hf5⟩ := bcell hb5)
                  go_quiet ((first | (go_at_call 86; with_reducible exact Calls.quiet_of_same (c1 _)) | (go_at_call 86; with_reducible exact Calls.quiet_of_same (c2 _))))
                  have hownQ : ∀ nq, (w5.drewN nq).ownsRow w.heap.size 23 3 (.slice A' m c') m (rowOf (listR d S k ++ rowR d S a j)) := fun nq => own_below (own_below (hown'.out.alloc _) hb5) (below_drewN (Below.refl _ _) _)
                  have hblQ : ∀ nq, Below w.heap.size w (w5.drewN nq) := fun nq => below_drewN ((hbl'.alloc hbl'.size _).trans (hb5.mono (by have := hbl'.size; simp; omega))) _
                  have hszQ : w.heap.size ≤ w5.heap.size := (hblQ 0).size
                  have HOQ := Lib.hid hownQ
                  have HBQ := Lib.hid hblQ
                  clear hownQ hblQ c1 c2 hred hgb
                  go_wp2_with (at_builtin
                               refine wpList_append_own _ rfl _ _ 32 rfl w.heap.size 23 i0 (.agg #[.int .i64 0, .int .i64 0, .int .i64 0]) 3 24 Try.underlying32 hi hz0 hz1 hz2 rfl (by decide) (.slice A' m c') _ _ rfl ((HOQ.out _).alloc _) ⟨w5.heap.size, 0, none⟩ 1 1 (binCells ⟨a, b, q⟩) rfl rfl (bin_at (w5.drewN _) ⟨a, b, q⟩) (binCells_one ⟨a, b, q⟩) (by unfold maxLen; omega) (by omega) (by simp; omega) ?_
                               intro v1 w1 hown1 hgrow1 _
                               obtain ⟨A1, c1, rfl⟩ := own_slice hown1)
                  go_roundw
                  case rel =>
                    have e : rowR d S a (j + 1) = rowR d S a j ++ [⟨a, b, q⟩] := by rw [rowR_succ ha0, hcell.out]; simp [okF, HR.out, HP.out]
                    exact ⟨j + 1, m + 1, _, A1, c1, rfl, rfl, by show _ = _; have := hb.out; omega, by omega, by omega, by omega, by have := hb.out; omega,
                      by show _ = _; rw [e, ← List.append_assoc, List.length_append, ← hlen'.out]; rfl,
                      by show World.ownsRow _ _ _ _ _ _ _; rw [e, ← List.append_assoc, rowOf_snoc]; exact hown1,
                      ((HBQ.out _).alloc (by simpa using hszQ) _).grown hgrow1 (by simp; omega) (fun x hx => ((HOQ.out 0).lt x hx).1)⟩
                  case measure => simp [intOf]; omega
                · have hgb : ((Int.gcd (Int.gcd a b : Int) q : Int) == 1) = false := by
                    rw [beq_eq_false_iff_ne]
                    intro h1
                    exact hP (HPI.out.2 (by omega))
                  have HP := Lib.hid hP
                  clear hP
                  generalize Int.gcd (Int.gcd a b : Int) q = G2 at *
                  generalize Int.gcd a b = G at *
                  go_wp2_with (go_at_call 85; refine (hred _).mono ?_; rintro e w5 ⟨rfl, hb5⟩; obtain ⟨hc5, hf5⟩ := bcell hb5)
                  go_quiet ((first | (go_at_call 86; with_reducible exact Calls.quiet_of_same (c1 _)) | (go_at_call 86; with_reducible exact Calls.quiet_of_same (c2 _))))
                  go_wp2
                  go_roundw
                  case rel =>
                    have e : rowR d S a (j + 1) = rowR d S a j := by rw [rowR_succ ha0]; rw [hcell.out]; simp [okF, HP.out]
                    exact ⟨j + 1, m, _, A', c', rfl, rfl, by show _ = _; have := hb.out; omega, by omega, by omega, by omega, by have := hb.out; omega, by show _ = _; rw [e]; exact hlen'.out, by show World.ownsRow _ _ _ _ _ _ _; rw [e]; exact own_below (own_below (hown'.out.alloc _) hb5) (below_drewN (Below.refl _ _) _), below_drewN ((hbl'.alloc hbl'.size _).trans (hb5.mono (by have := hbl'.size; simp; omega))) _⟩
                  case measure => simp [intOf]; omega
              · rw [decide_eq_false hR] at hred
                have HR := Lib.hid hR
                clear hR hprim
                go_wp2_with (go_at_call 85; refine (hred _).mono ?_; rintro e w5 ⟨rfl, hb5⟩; obtain ⟨hc5, hf5⟩ := bcell hb5)
                go_quiet (fail)
                go_wp2
                go_roundw
                case rel =>
                  have e : rowR d S a (j + 1) = rowR d S a j := by rw [rowR_succ ha0]; rw [hcell.out]; simp [okF, HR.out]
                  exact ⟨j + 1, m, _, A', c', rfl, rfl, by show _ = _; have := hb.out; omega, by omega, by omega, by omega, by have := hb.out; omega, by show _ = _; rw [e]; exact hlen'.out, by show World.ownsRow _ _ _ _ _ _ _; rw [e]; exact own_below (own_below (hown'.out.alloc _) hb5) (below_drewN (Below.refl _ _) _), below_drewN ((hbl'.alloc hbl'.size _).trans (hb5.mono (by have := hbl'.size; simp; omega))) _⟩
                case measure => simp [intOf]; omega
            · have htb : ((b * b - d).tmod (4 * a) != 0) = true := by simpa using ht
              have HT := Lib.hid ht
              clear ht
              go_wp2
              go_roundw
              case rel =>
                have e : rowR d S a (j + 1) = rowR d S a j := by rw [rowR_succ ha0]; unfold cellR; rw [← hb.out, if_neg HT.out, List.append_nil]
                exact ⟨j + 1, m, _, A', c', rfl, rfl, by show _ = _; have := hb.out; omega, by omega, by omega, by omega, by have := hb.out; omega, by show _ = _; rw [e]; exact hlen'.out, by show World.ownsRow _ _ _ _ _ _ _; rw [e]; exact own_below hown'.out (Below.refl _ _), hbl'.trans ((Below.refl _ _).mono hbl'.size)⟩
              case measure => simp [intOf]; omega
          · go_wp2
            go_roundw
            case rel =>
              have e : listR d S (k + 1) = listR d S k ++ rowR d S a j := by rw [listR_succ, ← ha.out]; congr 2; have := hb.out; omega
              exact ⟨k + 1, m, _, A', c', rfl, rfl, by show _ = _; have := ha.out; omega, by omega, by omega, by omega, by have := ha.out; omega, by show _ = _; rw [e]; exact hlen'.out, by show World.ownsRow _ _ _ _ _ _ _; rw [e]; exact hown'.out, hbl'⟩
            case measure => simp [intOf]; omega
    · go_wp2
      go_ret
      have hk2 : k = 2 * S + 1 := by have := ha.out; omega
      subst hk2
      exact ⟨_, rfl, by rw [← hlen.out]; exact hown.out, hbl⟩

end Go.Proofs.Ytljhbjkdifmonaa

namespace Go.Proofs.Ytljhbjkdifmonaa
open Go.RowKit Pq

theorem info4 : (Try.prog.info? 4).map (fun i => (i.zero, i.size, i.bytes)) = some (some (.bool false), 1, 1) := by kernel_rfl
theorem info32 : (Try.prog.info? 32).map (fun i => (i.zero, i.size, i.bytes)) = some (some (.slice none 0 0), 1, 24) := by kernel_rfl

/-- A row of booleans. -/
def boolsV (l : List Bool) : List Value := l.map Value.bool

theorem run_make_bools (n : Nat) (hn : n ≤ 1000000) (w : World) :
    (Instr.makeSlice 71 (.int .i64 (n : Int)) (.int .i64 (n : Int))).run Try.prog w = .ok (.slice (some ⟨w.heap.size, 0, none⟩) n n) (w.alloc (.cells (madeCells #[.bool false] n) 4)) := by
  obtain ⟨i, hi, hz, hz1, hz2⟩ := info_parts info4
  have hr := run_make (P := Try.prog) w 71 4 i (.bool false) Try.underlying71 hi hz .i64 .i64 n n (by omega) (by omega) (by rw [hz2]; omega) (by omega)
  rw [hz1] at hr
  simpa [Value.cells] using hr

theorem made_bools (n : Nat) (hn : n ≤ 1000000) (w : World) (base : Nat) (hb : base ≤ w.heap.size) :
    (w.alloc (.cells (madeCells #[.bool false] n) 4)).ownsRow base 4 1 (.slice (some ⟨w.heap.size, 0, none⟩) n n) n (boolsV (List.replicate n false)) := by
  refine ⟨by simp [boolsV], .inr ⟨w.heap.size, n, madeCells #[.bool false] n, rfl, hb, heap_alloc_new w _, Nat.le_refl _, by unfold maxLen; omega, by simp [size_madeCells], ?_⟩⟩
  have : (madeCells #[.bool false] n).toList = List.replicate n (.bool false) := by
    unfold madeCells
    rw [Array.toList_map, List.eq_replicate_iff]
    refine ⟨by simp, fun b hb => ?_⟩
    rw [List.mem_map] at hb
    obtain ⟨x, _, rfl⟩ := hb
    simp [Nat.mod_one]
  rw [this]
  simp [boolsV]

/-- A slice of slices of forms, all of the call's own: no two rows share a block. -/
def OwnLL (w : World) (base : Nat) (v : Value) (ls : List (List Bin)) : Prop :=
  ∃ vs : List Value, w.ownsRow base 32 1 v ls.length vs ∧ (∀ (i : Nat) (u : Value) (l : List Bin), vs[i]? = some u → ls[i]? = some l → w.ownsRow base 23 3 u l.length (rowOf l)) ∧
    (∀ (i j : Nat) (u u' : Value) (b : Nat), i < j → vs[i]? = some u → vs[j]? = some u' → u.ownBlock = some b → u'.ownBlock ≠ some b)

theorem own_len {w : World} {base : Nat} {e : TypeId} {size : Nat} {v : Value} {n : Nat} {xs : List Value} (h : w.ownsRow base e size v n xs) : xs.length = n * size := h.1

/-- Where an owned slice of something lies. -/
theorem own_at {w : World} {base : Nat} {e : TypeId} {size : Nat} {A : Option Addr} {c n : Nat} {xs : List Value} (h : w.ownsRow base e size (.slice A n c) n xs) (hn : 0 < n) :
    ∃ g, A = some ⟨g, 0, none⟩ ∧ base ≤ g ∧ g < w.heap.size := by
  rcases h.2 with ⟨h', h0⟩ | ⟨g, cap, cur, h', hb, hg, _⟩
  · omega
  · simp only [Value.slice.injEq] at h'
    exact ⟨g, h'.1, hb, (Array.getElem?_eq_some_iff.1 hg).1⟩

theorem rowOf_at {l : List Bin} : ∀ {k : Nat}, k < l.length → (rowOf l)[k * 3]? = some (.int .i64 (nth l k).a) ∧ (rowOf l)[k * 3 + 1]? = some (.int .i64 (nth l k).b) ∧ (rowOf l)[k * 3 + 2]? = some (.int .i64 (nth l k).c) := by
  induction l with
  | nil => intro k h; simp at h
  | cons f l ih =>
    intro k h
    cases k with
    | zero => simp [rowOf, binCells, nth]
    | succ k =>
      have := ih (k := k) (by simpa using h)
      have e1 : (rowOf (f :: l)) = [Value.int .i64 f.a, .int .i64 f.b, .int .i64 f.c] ++ rowOf l := by simp [rowOf, binCells]
      have e2 : nth (f :: l) (k + 1) = nth l k := by simp [nth]
      rw [e1, e2]
      rw [show (k + 1) * 3 = k * 3 + 3 by omega]
      refine ⟨?_, ?_, ?_⟩
      · rw [List.getElem?_append_right (by simp)]; simpa using this.1
      · rw [List.getElem?_append_right (by simp only [List.length_cons, List.length_nil]; omega), show k * 3 + 3 + 1 - [Value.int .i64 f.a, Value.int .i64 f.b, Value.int .i64 f.c].length = k * 3 + 1 by simp only [List.length_cons, List.length_nil]; omega]; exact this.2.1
      · rw [List.getElem?_append_right (by simp only [List.length_cons, List.length_nil]; omega), show k * 3 + 3 + 2 - [Value.int .i64 f.a, Value.int .i64 f.b, Value.int .i64 f.c].length = k * 3 + 2 by simp only [List.length_cons, List.length_nil]; omega]; exact this.2.2

theorem own_bin {w : World} {base g c : Nat} {l : List Bin} (h : w.ownsRow base 23 3 (.slice (some ⟨g, 0, none⟩) l.length c) l.length (rowOf l)) {k : Nat} (hk : k < l.length) :
    w.cell? ⟨g, k * 3, none⟩ = some (.int .i64 (nth l k).a) ∧ w.cell? ⟨g, k * 3 + 1, none⟩ = some (.int .i64 (nth l k).b) ∧ w.cell? ⟨g, k * 3 + 2, none⟩ = some (.int .i64 (nth l k).c) := by
  obtain ⟨h1, h2, h3⟩ := rowOf_at hk
  refine ⟨?_, ?_, ?_⟩
  · rw [h.cellAt (k * 3) (by omega)]; exact h1
  · rw [h.cellAt (k * 3 + 1) (by omega)]; exact h2
  · rw [h.cellAt (k * 3 + 2) (by omega)]; exact h3

theorem own_ne_type {w : World} {base base' : Nat} {e e' : TypeId} {size size' n n' : Nat} {u v : Value} {xs ys : List Value} (h : w.ownsRow base e size u n xs) (k : w.ownsRow base' e' size' v n' ys) (hne : e ≠ e') : u.ownBlock = none ∨ u.ownBlock ≠ v.ownBlock := by
  rcases h.2 with ⟨rfl, _⟩ | ⟨g, cap, cur, rfl, _, hg, _⟩
  · exact .inl rfl
  · right
    rcases k.2 with ⟨rfl, _⟩ | ⟨g', cap', cur', rfl, _, hg', _⟩
    · simp [Value.ownBlock]
    · intro he
      have : g = g' := by simpa [Value.ownBlock] using he
      subst this
      rw [hg] at hg'
      injection hg' with h1
      injection h1 with _ h2
      exact hne h2

theorem own_grown {w w' : World} {base : Nat} {e : TypeId} {size n : Nat} {v : Value} {xs : List Value} (h : w.ownsRow base e size v n xs) {row : Option Nat} (hg : w.grownBy w' row) (hr : ∀ k, row = some k → k < base) : w'.ownsRow base e size v n xs := by
  refine h.kept hg ?_
  cases hv : v.ownBlock with
  | none => exact .inl rfl
  | some b =>
    right
    intro he
    have h1 := (h.lt b hv).1
    have h2 := hr b he.symm
    omega

theorem OwnLL.grown {w w' : World} {base : Nat} {v : Value} {ls : List (List Bin)} (h : OwnLL w base v ls) {row : Option Nat} (hg : w.grownBy w' row) (hr : ∀ k, row = some k → k < base) : OwnLL w' base v ls := by
  obtain ⟨vs, h1, h2, h3⟩ := h
  exact ⟨vs, own_grown h1 hg hr, fun i u l hu hl => own_grown (h2 i u l hu hl) hg hr, h3⟩
theorem OwnLL.below {w w' : World} {base : Nat} {v : Value} {ls : List (List Bin)} (h : OwnLL w base v ls) (hb : Below w.heap.size w w') : OwnLL w' base v ls :=
  h.grown (row := none) ⟨hb.os, hb.tape, hb.output, hb.size, fun i hi _ => hb.block i hi⟩ (by intro k hk; cases hk)
theorem OwnLL.base {w : World} {base base' : Nat} {v : Value} {ls : List (List Bin)} (h : OwnLL w base v ls) (hb : base' ≤ base) : OwnLL w base' v ls := by
  obtain ⟨vs, h1, h2, h3⟩ := h
  exact ⟨vs, own_base h1 hb, fun i u l hu hl => own_base (h2 i u l hu hl) hb, h3⟩
theorem OwnLL.nil (w : World) (base : Nat) : OwnLL w base (.slice none 0 0) [] :=
  ⟨[], ⟨rfl, .inl ⟨rfl, rfl⟩⟩, fun i u l hu _ => by simp at hu, fun i j u u' b _ hu => by simp at hu⟩

/-- One row more, appended. -/
theorem OwnLL.snoc {w w1 : World} {base : Nat} {v v1 u : Value} {ls : List (List Bin)} {l : List Bin} {vs : List Value} {o : Obj} (h1 : w.ownsRow base 32 1 v ls.length vs)
    (h2 : ∀ (i : Nat) (u : Value) (l : List Bin), vs[i]? = some u → ls[i]? = some l → w.ownsRow base 23 3 u l.length (rowOf l))
    (h3 : ∀ (i j : Nat) (u u' : Value) (b : Nat), i < j → vs[i]? = some u → vs[j]? = some u' → u.ownBlock = some b → u'.ownBlock ≠ some b)
    (hrow : w.ownsRow base 23 3 u l.length (rowOf l)) (hd : ∀ (i : Nat) (u' : Value) (b : Nat), vs[i]? = some u' → u'.ownBlock = some b → u.ownBlock ≠ some b)
    (hg : (w.alloc o).grownBy w1 v.ownBlock) (hown : w1.ownsRow base 32 1 v1 (ls.length + 1) (vs ++ [u])) : OwnLL w1 base v1 (ls ++ [l]) := by
  have hlen : vs.length = ls.length := by have := h1.1; omega
  have keep : ∀ (u : Value) (l : List Bin), w.ownsRow base 23 3 u l.length (rowOf l) → w1.ownsRow base 23 3 u l.length (rowOf l) := fun u l hu => (hu.alloc o).kept hg (own_ne_type hu h1 (by decide))
  refine ⟨vs ++ [u], by simpa using hown, fun i u' l' hu hl => ?_, fun i j u1 u2 b hij h4 h5 h6 => ?_⟩
  · by_cases hi : i < vs.length
    · rw [List.getElem?_append_left hi] at hu
      rw [List.getElem?_append_left (by omega)] at hl
      exact keep _ _ (h2 i u' l' hu hl)
    · have hi2 : i = vs.length := by
        have := (List.getElem?_eq_some_iff.1 hu).1
        simp at this; omega
      subst hi2
      rw [List.getElem?_append_right (Nat.le_refl _)] at hu
      rw [hlen, List.getElem?_append_right (Nat.le_refl _)] at hl
      simp at hu hl
      subst hu; subst hl
      exact keep _ _ hrow
  · by_cases hj : j < vs.length
    · rw [List.getElem?_append_left hj] at h5
      rw [List.getElem?_append_left (by omega)] at h4
      exact h3 i j u1 u2 b hij h4 h5 h6
    · have hj2 : j = vs.length := by
        have := (List.getElem?_eq_some_iff.1 h5).1
        simp at this; omega
      subst hj2
      rw [List.getElem?_append_right (Nat.le_refl _)] at h5
      rw [List.getElem?_append_left hij] at h4
      simp at h5; subst h5
      exact hd i u1 b h4 h6

end Go.Proofs.Ytljhbjkdifmonaa

namespace Go.Proofs.Ytljhbjkdifmonaa
open Go.RowKit Pq

theorem rall_bad (d : Int) (w : World) (h : 65536 < d ∨ crossB d = false) : Calls Try.prog 14 #[.int .i64 d] w fun e w' => e = .returned (.tuple #[.slice none 0 0, .int .i64 80]) ∧ Below w.heap.size w w' := by
  have hc := fun W => rcross_any d W
  cases hx : crossB d with
  | true =>
    rw [hx] at hc
    have h1 : 65536 < d := by rcases h with h | h; exact h; rw [hx] at h; cases h
    clear h hx
    go_enter Try.func14, Try.ntmps14
    go_wp2_with (go_at_call 51; refine (hc _).mono ?_; rintro e w' ⟨rfl, rfl⟩)
    go_ret2
    exact ⟨rfl, Below.refl _ _⟩
  | false =>
    rw [hx] at hc
    clear h hx
    go_enter Try.func14, Try.ntmps14
    go_wp2_with (go_at_call 51; refine (hc _).mono ?_; rintro e w' ⟨rfl, rfl⟩)
    go_ret2
    exact ⟨rfl, Below.refl _ _⟩

theorem made_arr (n : Nat) : madeCells #[.bool false] n = (boolsV (List.replicate n false)).toArray := by
  have : (madeCells #[.bool false] n).toList = boolsV (List.replicate n false) := by
    unfold madeCells boolsV
    rw [Array.toList_map, List.map_replicate, List.eq_replicate_iff]
    refine ⟨by simp, fun b hb => ?_⟩
    rw [List.mem_map] at hb
    obtain ⟨x, _, rfl⟩ := hb
    simp [Nat.mod_one]
  rw [← this]
theorem bools_at (l : List Bool) (k : Nat) (b : Bool) (h : l[k]? = some b) : (boolsV l).toArray[k]? = some (.bool b) := by
  simp [boolsV, h]
theorem bools_set (l : List Bool) (k : Nat) (b : Bool) : (boolsV l).toArray.setIfInBounds k (.bool b) = (boolsV (l.set k b)).toArray := by
  simp [boolsV, List.map_set]
theorem below_grownby {B : Nat} {a w w' : World} {row : Option Nat} (h : Below B a w) (hg : w.grownBy w' row) (hB : B ≤ w.heap.size) (hr : ∀ k, row = some k → B ≤ k) : Below B a w' := h.grown hg hB hr
theorem below_weak {B C : Nat} {a w : World} (h : Below B a w) (hc : C ≤ B) : Below C a w := ⟨h.os, h.tape, h.output, h.size, fun i hi => h.block i (by omega)⟩

theorem grow_own {wo wr wa : World} {row v : Option Nat} (h : wo.grownBy wr row) (hg : wr.grownBy wa v) (hv : ∀ k, v = some k → wo.heap.size ≤ k) : wo.grownBy wa row :=
  ⟨hg.os.trans h.os, hg.tape.trans h.tape, hg.output.trans h.output, Nat.le_trans h.size hg.size, fun k hk hne => (hg.block k (Nat.lt_of_lt_of_le hk h.size) (by intro e; have := hv k e.symm; omega)).trans (h.block k hk hne)⟩
theorem grow_same {wo wr wa : World} {row : Option Nat} (h : wo.grownBy wr row) (hg : wr.grownBy wa row) : wo.grownBy wa row :=
  ⟨hg.os.trans h.os, hg.tape.trans h.tape, hg.output.trans h.output, Nat.le_trans h.size hg.size, fun k hk hne => (hg.block k (Nat.lt_of_lt_of_le hk h.size) hne).trans (h.block k hk hne)⟩
theorem grow_drewN (w : World) (n : Nat) (row : Option Nat) : w.grownBy (w.drewN n) row := ⟨rfl, rfl, rfl, Nat.le_refl _, fun _ _ _ => rfl⟩
theorem grow_below {w w' : World} (h : Below w.heap.size w w') (row : Option Nat) : w.grownBy w' row := ⟨h.os, h.tape, h.output, h.size, fun k hk _ => h.block k hk⟩
theorem grow_set (w : World) (g i : Nat) (u : Value) : w.grownBy (w.setCell ⟨g, i, none⟩ u) (some g) :=
  ⟨rfl, rfl, rfl, by simp [World.setCell], fun k _ hne => Below.heap_setCell w ⟨g, i, none⟩ u k (by intro e; exact hne (by rw [e]))⟩

theorem within_red {d s M : Int} (h : Cross d s) (hs : s ≤ M) {f : Bin} (hf : f.disc = d) (hr : Red s f) : Within M f := by
  have h1 := of_sz_le hr.a_le
  have h2 := of_sz_le (hr.c_le h hf)
  have h3 := hr.1
  have h4 := hr.2.1
  refine ⟨⟨by omega, by omega⟩, ⟨by omega, by omega⟩, ⟨by omega, by omega⟩⟩

theorem one_at (w : World) (v : Value) (t : TypeId) : ∀ (j : Nat) (u : Value), [v][j]? = some u → (w.alloc (Obj.cells #[v] t)).cell? ((⟨w.heap.size, 0, none⟩ : Addr).add j) = some u := by
  intro j u h
  have hb := Blk.new w t #[v]
  have hj : j = 0 := by
    have := (List.getElem?_eq_some_iff.1 h).1
    simp at this; omega
  subst hj
  simp at h; subst h; exact hb.cell 0

set_option maxRecDepth 100000 in
set_option maxHeartbeats 8000000 in
theorem rall_ok (d s : Int) (L : List Bin) (w : World) (hcr : Cross d s) (hd : d ≤ 65536) (hx : crossB d = true) (hL : L = listR d s (2 * s + 1).toNat) (hs : s ≤ 255) (hlen : L.length ≤ 200000) :
    Calls Try.prog 14 #[.int .i64 d] w fun e w' => ∃ v, e = .returned (.tuple #[v, .int .i64 0]) ∧ OwnLL w' w.heap.size v (outTo d s L L.length) ∧ Below w.heap.size w w' := by
  have hc := fun W => rcross_any d W
  rw [hx] at hc
  have hli := fun W => listed_any d s W hcr hd
  rw [← hL] at hli
  have hmem : ∀ k, k < L.length → (nth L k).disc = d ∧ Red s (nth L k) := fun k hk => by
    have h0 : nth L k ∈ listR d s (2 * s + 1).toNat := by rw [← hL]; exact nth_mem hk
    have h1 := (mem_listR (by have := hcr.spos; omega) hcr).1 h0
    exact ⟨h1.1, h1.2.1⟩
  have HM := Lib.hid hmem
  have HC := Lib.hid hcr
  have HL := Lib.hid hL
  clear hmem hL hx
  have hmk := fun W => run_make_bools L.length (by omega) W
  have hnx := fun f W hw hf => rnext_any f d s W hw hcr (by omega) hf
  generalize hn : L.length = n at *
  have HN := Lib.hid hn
  clear hn hcr
  obtain ⟨i0, hi, hz0, hz1, hz2⟩ := info_parts info23
  obtain ⟨i2, hi2, hy0, hy1, hy2⟩ := info_parts info32
  have HX := Lib.hid hnx
  clear hnx
  go_enter Try.func14, Try.ntmps14
  go_wp2_with (first
    | (go_at_call 51; refine (hc _).mono ?_; rintro e w' ⟨rfl, rfl⟩)
    | (go_at_call 53; refine (hli _).mono ?_; rintro e w1 ⟨v, rfl, hown1, hb1⟩; obtain ⟨A, cl, rfl⟩ := own_slice hown1))
  have hO1 := Lib.hid hown1
  have hB1 := Lib.hid hb1
  have hD := Lib.hid (show Blk (w1.alloc (.cells (madeCells #[.bool false] n) 4)) w1.heap.size 4 (boolsV (List.replicate n false)).toArray by have := Blk.new w1 4 (madeCells #[.bool false] n); rw [made_arr n] at this ⊢; exact this)
  clear hown1 hb1 hmk hc hli
  go_loopw [5, 8] (fun u v wr => ∃ (i no : Nat) (Ao : Option Addr) (co : Nat), u = .slice Ao no co ∧ v = .int .i64 i ∧ i ≤ n ∧ no ≤ i ∧ Hid (no = (outTo d s L i).length) ∧ Hid (OwnLL wr (w1.heap.size + 1) (.slice Ao no co) (outTo d s L i)) ∧ Hid (Blk wr w1.heap.size 4 (boolsV (flags L (outTo d s L i).flatten)).toArray) ∧ Hid (Below w1.heap.size w1 wr) ∧ w1.heap.size < wr.heap.size) (fun _ v _ => (n - intOf v).toNat)
  case atStart => exact ⟨0, 0, none, 0, rfl, rfl, by omega, by omega, by show _ = _; rfl, OwnLL.nil _ _, by show Blk _ _ _ _; rw [outTo, List.flatten_nil, flags_nil, HN.out]; exact hD.out, ((Below.refl _ _).alloc (Nat.le_refl _) _), by simp⟩
  case round =>
    obtain ⟨i, no, Ao, co, rfl, rfl, hin, hno, hnl, hLL, hDo, hBe, hsz⟩ := hrel
    rename World => wo
    by_cases hlt : i < n
    · have hcD := hDo.out.cell i
      have hfD := hDo.out.frozen i
      by_cases hmem : nth L i ∈ (outTo d s L i).flatten
      · rw [bools_at _ _ _ (flags_at (by rw [HN.out]; exact hlt)), decide_eq_true hmem] at hcD
        have HMM := Lib.hid hmem
        clear hmem
        go_wp2
        go_roundw
        case rel => exact ⟨i + 1, no, Ao, co, rfl, by simp, by omega, by omega, by show _ = _; rw [outTo_mem i HMM.out]; exact hnl.out, by show OwnLL _ _ _ _; rw [outTo_mem i HMM.out]; exact hLL.out, by show Blk _ _ _ _; rw [outTo_mem i HMM.out]; exact hDo.out, hBe, hsz⟩
        case measure => simp [intOf]; omega
      · rw [bools_at _ _ _ (flags_at (by rw [HN.out]; exact hlt)), decide_eq_false hmem] at hcD
        have HMM := Lib.hid hmem
        clear hmem
        obtain ⟨g, hA, hg1, hg2⟩ := own_at hO1.out (by omega)
        subst hA
        have hOr := Lib.hid (fun W (hb : Below w1.heap.size w1 W) k (hk : k < L.length) => own_bin (HN.out.symm ▸ own_below hO1.out hb) (k := k) hk)
        obtain ⟨r0, r1, r2⟩ := hOr.out _ hBe.out i (by rw [HN.out]; exact hlt)
        obtain ⟨F, hFi, hF0, hFs, hFd, hFw, hFl⟩ : ∃ F : Nat → Bin, (∀ k, F k = It d s k (nth L i)) ∧ F 0 = nth L i ∧ (∀ k, F (k + 1) = nxt d s (F k)) ∧ (∀ k, (F k).disc = d) ∧ (∀ k, Within 1073741824 (F k)) ∧ (∀ N, cyc d s N (nth L i) = (List.range N).map F) :=
          ⟨fun k => It d s k (nth L i), fun k => rfl, rfl, fun k => It_succ' d s k _, fun k => It_disc HC.out k (HM.out i hlt).1, fun k => within_red HC.out (by omega) (It_disc HC.out k (HM.out i hlt).1) (It_red HC.out k (HM.out i hlt).1 (HM.out i hlt).2), fun N => rfl⟩
        have hper := per_spec HC.out hs (HM.out i hlt).1 (HM.out i hlt).2
        have hPl := hFl (per d s (nth L i))
        have hPn : F (per d s (nth L i)) = F 0 := by rw [hF0, hFi]; exact hper.2.2.1
        have hPk : ∀ k, 0 < k → k < per d s (nth L i) → F k ≠ F 0 := fun k h1 h2 => by rw [hF0, hFi]; exact hper.2.2.2 k h1 h2
        obtain ⟨hp0, hp1, hprest⟩ := hper
        clear hprest
        have HcyE : Hid (cy d s (nth L i) = (List.range (per d s (nth L i))).map F) := by show _ = _; exact hPl
        generalize per d s (nth L i) = N at *
        rw [← hF0] at r0 r1 r2
        have HF0 := Lib.hid hF0
        have HFs := Lib.hid hFs
        have HFd := Lib.hid (And.intro hFd hFw)
        have HPn := Lib.hid hPn
        have HPk := Lib.hid hPk
        clear hF0 hFs hFd hFw hFl hPl hPn hPk hFi
        obtain ⟨S, hS⟩ : ∃ S, S = (outTo d s L i).flatten := ⟨_, rfl⟩
        have HS := Lib.hid hS
        clear hS
        rw [← HS.out] at hDo
        go_wp2
        go_loopw [9] (fun u wi => ∃ (m : Nat) (A' : Option Addr) (c' : Nat), u = .slice A' m c' ∧ m ≤ N ∧ Hid (wi.ownsRow (wo.heap.size + 1) 23 3 (.slice A' m c') m (rowOf ((List.range m).map F))) ∧ Hid (Blk wi wo.heap.size 23 #[.int .i64 (F m).a, .int .i64 (F m).b, .int .i64 (F m).c]) ∧ Hid (Blk wi w1.heap.size 4 (boolsV (flags L (S ++ (List.range m).map F))).toArray) ∧ Hid (wo.grownBy wi (some w1.heap.size)) ∧ wo.heap.size < wi.heap.size) (fun u _ => N - lenOf u)
        case atStart => exact ⟨0, none, 0, rfl, by omega, ⟨rfl, .inl ⟨rfl, rfl⟩⟩, Blk.new _ _ _, by show Blk _ _ _ _; rw [List.range_zero, List.map_nil, List.append_nil]; exact hDo.out.alloc _, World.grownBy_alloc _ _ _, by simp⟩
        case round =>
          obtain ⟨m, A', c', rfl, hmN, how, hbx, hdo, hgr, hsi⟩ := hrel
          have hBi := Lib.hid (below_grownby hBe.out hgr.out (by omega) (by intro k hk; cases hk; exact Nat.le_refl _))
          obtain ⟨r0', r1', r2'⟩ := hOr.out _ hBi.out i (by rw [HN.out]; exact hlt)
          rw [← HF0.out] at r0' r1' r2'
          obtain ⟨q0, q1, q2⟩ := hbx.out.c3
          have q3 := fun k => hbx.out.frozen k
          by_cases hend : m = N
          · have hne1 := fun W => neq23 W (F m) (F 0)
            rw [decide_eq_true (show F m = F 0 by rw [hend, HPn.out])] at hne1
            have hz : (((m : Nat) : Int) == 0) = false := by simp; omega
            simp only [Bool.not_true] at hne1
            have HE := Lib.hid hend
            clear hend
            obtain ⟨vs, l1, l2, l3⟩ := hLL.out
            have hvl := own_len l1
            have l4 := Lib.hid (own_grown l1 hgr.out (by intro k hk; cases hk; exact Nat.lt_succ_self _))
            rw [← hnl.out] at l4
            have lH := Lib.hid (And.intro l1 (And.intro l2 l3))
            clear l1 l2 l3 hLL
            go_wp2
            go_quiet (fail)
            go_wp2_with (at_builtin
                         refine wpList_append_own _ rfl _ _ 27 rfl (w1.heap.size + 1) 32 i2 (.slice none 0 0) 1 24 Try.underlying27 hi2 hy0 hy1 hy2 rfl (by decide) (.slice Ao no co) _ _ rfl (own_below (own_below l4.out (below_drewN (Below.refl _ _) _)) ((Below.refl _ _).alloc (Nat.le_refl _) _)) ⟨_, 0, none⟩ 1 1 [.slice A' m c'] rfl rfl (one_at _ _ _) (by intro u hu; simp at hu; subst hu; rfl) (by unfold maxLen; omega) (by omega) (by simp; omega) ?_
                         intro v1 w2 hown1 hgrow1 _
                         obtain ⟨A1, c1, rfl⟩ := own_slice hown1)
            go_roundw
            case rel =>
              obtain ⟨l1, l2, l3⟩ := lH.out
              have e1 : outTo d s L (i + 1) = outTo d s L i ++ [(List.range N).map F] := by rw [outTo_new i HMM.out, HcyE.out]
              have k1 : (wr.drewN nq).ownsRow (w1.heap.size + 1) 32 1 (.slice Ao no co) (outTo d s L i).length vs := by rw [← hnl.out]; exact own_below l4.out (below_drewN (Below.refl _ _) _)
              have k2 := fun (i' : Nat) (u : Value) (l : List Bin) (hu : vs[i']? = some u) (hl : (outTo d s L i)[i']? = some l) => own_below (own_grown (l2 i' u l hu hl) hgr.out (by intro k hk; cases hk; exact Nat.lt_succ_self _)) (below_drewN (Below.refl wr.heap.size wr) nq)
              have k4 : (wr.drewN nq).ownsRow (w1.heap.size + 1) 23 3 (.slice A' m c') ((List.range N).map F).length (rowOf ((List.range N).map F)) := by
                rw [List.length_map, List.length_range, ← HE.out]
                exact own_base (own_below how.out (below_drewN (Below.refl _ _) _)) (by omega)
              have k5 : ∀ (i' : Nat) (u' : Value) (b : Nat), vs[i']? = some u' → u'.ownBlock = some b → (Value.slice A' m c').ownBlock ≠ some b := by
                intro i' u' b hu hb hc
                have hi' : i' < (outTo d s L i).length := by
                  have := (List.getElem?_eq_some_iff.1 hu).1
                  rw [hvl] at this; omega
                have h1 := (l2 i' u' _ hu (List.getElem?_eq_getElem hi')).lt b hb
                have h2 := how.out.lt b hc
                omega
              have hown2 : w2.ownsRow (w1.heap.size + 1) 32 1 (.slice A1 (no + 1) c1) ((outTo d s L i).length + 1) (vs ++ [.slice A' m c']) := by rw [← hnl.out]; exact hown1
              have hfin := OwnLL.snoc k1 k2 l3 k4 k5 hgrow1 hown2
              have hdo2 := ((hdo.out.drewN nq).alloc (Obj.cells #[.slice A' m c'] 32)).grown hgrow1 (own_ne k1 (Nat.lt_succ_self _))
              rw [HE.out] at hdo2
              have hB2 := below_grownby (below_grownby (below_drewN hBi.out nq) (World.grownBy_alloc _ (Obj.cells #[.slice A' m c'] 32) none) hBi.out.size (by intro k hk; cases hk)) hgrow1 (by have := hBi.out.size; simp; omega) (fun k hk => by have := (k1.lt k hk).1; omega)
              have hS2 := hgrow1.size
              simp only [World.size_alloc] at hS2
              have hS3 : wr.heap.size ≤ (wr.drewN nq).heap.size := (below_drewN (Below.refl 0 wr) nq).size
              exact ⟨i + 1, no + 1, A1, c1, rfl, by simp, by omega, by omega, by show _ = _; rw [e1, List.length_append, ← hnl.out]; rfl, by show OwnLL _ _ _ _; rw [e1]; exact hfin, by show Blk _ _ _ _; rw [e1, List.flatten_append, ← HS.out, List.flatten_cons, List.flatten_nil, List.append_nil]; exact hdo2, hB2, by omega⟩
            case measure => simp [intOf]; omega
          · have hcase : ((((m : Nat) : Int) == 0) = true) ∨ ((((m : Nat) : Int) == 0) = false ∧ ∀ W, (binOp .neq 23 (.agg #[.int .i64 (F m).a, .int .i64 (F m).b, .int .i64 (F m).c]) (.agg #[.int .i64 (F 0).a, .int .i64 (F 0).b, .int .i64 (F 0).c])).run Try.prog W = .ok (.bool true) W) := by
              by_cases h0 : m = 0
              · left; simp [h0]
              · right
                refine ⟨by simp; omega, fun W => ?_⟩
                rw [neq23 W (F m) (F 0), decide_eq_false (HPk.out m (by omega) (by omega))]; rfl
            have HO := Lib.hid (fun nq => own_below how.out (below_drewN (Below.refl wr.heap.size wr) nq))
            rcases hcase with hz | ⟨hz, hnq⟩
            · go_wp2
              go_quiet (fail)
              clear r0' r1' r2' hz
              go_wp2_with (at_builtin
                           refine wpList_append_own _ rfl _ _ 32 rfl (wo.heap.size + 1) 23 i0 (.agg #[.int .i64 0, .int .i64 0, .int .i64 0]) 3 24 Try.underlying32 hi hz0 hz1 hz2 rfl (by decide) (.slice A' m c') _ _ rfl ((HO.out _).alloc _) ⟨wr.heap.size, 0, none⟩ 1 1 (binCells (F m)) rfl rfl (bin_at (wr.drewN _) (F m)) (binCells_one (F m)) (by unfold maxLen; omega) (by omega) (by simp; omega) ?_
                           intro v1 wa hown1 hgrow1 _
                           obtain ⟨A1, c1, rfl⟩ := own_slice hown1
                           have ga := Lib.hid (grow_own (grow_own hgr.out (grow_own (grow_drewN wr _ none) (World.grownBy_alloc _ _ none) (by intro k hk; cases hk)) (by intro k hk; cases hk)) hgrow1 (by intro k hk; have := (how.out.lt k hk).1; omega))
                           have gb := Lib.hid (((hbx.out.drewN _).alloc _).grown hgrow1 (own_ne how.out (by omega)))
                           have gd := Lib.hid (((hdo.out.drewN _).alloc _).grown hgrow1 (own_ne how.out (by omega)))
                           have go := Lib.hid hown1
                           clear hown1 hgrow1)
              go_loopw [11] (fun u wm => ∃ (t : Nat), u = .int .i64 t ∧ t ≤ n ∧ Hid (Blk wm w1.heap.size 4 (boolsV (marks L (S ++ (List.range m).map F) (F m) t)).toArray) ∧ Hid (wa.grownBy wm (some w1.heap.size)) ∧ wo.heap.size < wm.heap.size) (fun u _ => (n - intOf u).toNat)
              case atStart => exact ⟨0, rfl, by omega, by show Blk _ _ _ _; rw [marks_zero]; exact gd.out, World.grownBy.refl _ _, gb.out.lt⟩
              case round =>
                obtain ⟨t, rfl, htn, gdm, gm, gms⟩ := hrel
                rename World => wm
                have gbm := gb.out.grown gm.out (by intro e; injection e with e; omega)
                have gBm := Lib.hid (below_grownby hBe.out (grow_same ga.out gm.out) (by omega) (by intro k hk; cases hk; exact Nat.le_refl _))
                obtain ⟨q0', q1', q2'⟩ := gbm.c3
                have q3' := fun k => gbm.frozen k
                have HB := Lib.hid gbm
                clear gbm
                by_cases htlt : t < n
                · obtain ⟨t0, t1, t2⟩ := hOr.out _ gBm.out t (by rw [HN.out]; exact htlt)
                  have heq1 := fun W => eql23 W (nth L t) (F m)
                  by_cases hhit : nth L t = F m
                  · rw [decide_eq_true hhit] at heq1
                    have d0 := gdm.out.cell t
                    have d1 := gdm.out.frozen t
                    rw [bools_at _ _ _ (marks_at (by rw [HN.out]; exact htlt))] at d0
                    have HHit := Lib.hid hhit
                    clear hhit
                    go_wp2
                    go_quiet (fail)
                    go_wp2
                    go_roundw
                    case rel =>
                      exact ⟨t + 1, by simp, by omega, by show Blk _ _ _ _; rw [marks_hit (by rw [HN.out]; exact htlt) HHit.out, ← bools_set]; exact (gdm.out.drewN _).set_ t _, grow_same (grow_same gm.out (grow_drewN _ _ _)) (grow_set _ _ _ _), by simpa [World.setCell] using gms⟩
                    case measure => simp [intOf]; omega
                  · rw [decide_eq_false hhit] at heq1
                    have HHit := Lib.hid hhit
                    clear hhit
                    go_wp2
                    go_quiet (fail)
                    go_wp2
                    go_roundw
                    case rel =>
                      exact ⟨t + 1, by simp, by omega, by show Blk _ _ _ _; rw [marks_miss (by rw [HN.out]; exact htlt) HHit.out]; exact (gdm.out.drewN _), grow_same gm.out (grow_drewN _ _ _), gms⟩
                    case measure => simp [intOf]; omega
                · have hte : t = n := by omega
                  have gd2 := gdm.out
                  rw [marks_all _ _ _ _ (by rw [HN.out]; omega), List.append_assoc] at gd2
                  have HG := Lib.hid gd2
                  clear gd2
                  have hcall := fun W => HX.out (F m) W (HFd.out.2 m) (HFd.out.1 m)
                  rw [← HFs.out m] at hcall
                  generalize turnN s (F m) = tn at *
                  go_wp2_with (go_at_call 54; refine (hcall _).mono ?_; rintro e w5 ⟨rfl, hb5⟩; obtain ⟨hc5, hf5⟩ := bcell hb5)
                  go_roundw
                  case rel =>
                    have e1 : (List.range (m + 1)).map F = (List.range m).map F ++ [F m] := by rw [List.range_succ, List.map_append]; rfl
                    refine ⟨m + 1, A1, c1, rfl, by omega, ?_, ?_, ?_, ?_, ?_⟩
                    · show World.ownsRow _ _ _ _ _ _ _
                      rw [e1, rowOf_snoc]
                      exact own_set3 (own_below (own_grown go.out gm.out (by intro k hk; cases hk; omega)) hb5) (Nat.lt_succ_self _) _ _ _
                    · exact (HB.out.below' hb5).put3 _ _ _
                    · show Blk _ _ _ _
                      rw [e1]
                      exact (HG.out.below' hb5).far3 (by omega) _ _ _
                    · exact grow_own (grow_own (grow_own (grow_same (grow_same ga.out gm.out) (grow_below hb5 _)) (grow_set _ _ _ _) (by intro k hk; cases hk; exact Nat.le_refl _)) (grow_set _ _ _ _) (by intro k hk; cases hk; exact Nat.le_refl _)) (grow_set _ _ _ _) (by intro k hk; cases hk; exact Nat.le_refl _)
                    · have := hb5.size
                      simp [World.setCell]; omega
                  case measure => simp [lenOf]; omega
            · go_wp2
              go_quiet (fail)
              clear r0' r1' r2' hz hnq
              go_wp2_with (at_builtin
                           refine wpList_append_own _ rfl _ _ 32 rfl (wo.heap.size + 1) 23 i0 (.agg #[.int .i64 0, .int .i64 0, .int .i64 0]) 3 24 Try.underlying32 hi hz0 hz1 hz2 rfl (by decide) (.slice A' m c') _ _ rfl ((HO.out _).alloc _) ⟨wr.heap.size, 0, none⟩ 1 1 (binCells (F m)) rfl rfl (bin_at (wr.drewN _) (F m)) (binCells_one (F m)) (by unfold maxLen; omega) (by omega) (by simp; omega) ?_
                           intro v1 wa hown1 hgrow1 _
                           obtain ⟨A1, c1, rfl⟩ := own_slice hown1
                           have ga := Lib.hid (grow_own (grow_own hgr.out (grow_own (grow_drewN wr _ none) (World.grownBy_alloc _ _ none) (by intro k hk; cases hk)) (by intro k hk; cases hk)) hgrow1 (by intro k hk; have := (how.out.lt k hk).1; omega))
                           have gb := Lib.hid (((hbx.out.drewN _).alloc _).grown hgrow1 (own_ne how.out (by omega)))
                           have gd := Lib.hid (((hdo.out.drewN _).alloc _).grown hgrow1 (own_ne how.out (by omega)))
                           have go := Lib.hid hown1
                           clear hown1 hgrow1)
              go_loopw [11] (fun u wm => ∃ (t : Nat), u = .int .i64 t ∧ t ≤ n ∧ Hid (Blk wm w1.heap.size 4 (boolsV (marks L (S ++ (List.range m).map F) (F m) t)).toArray) ∧ Hid (wa.grownBy wm (some w1.heap.size)) ∧ wo.heap.size < wm.heap.size) (fun u _ => (n - intOf u).toNat)
              case atStart => exact ⟨0, rfl, by omega, by show Blk _ _ _ _; rw [marks_zero]; exact gd.out, World.grownBy.refl _ _, gb.out.lt⟩
              case round =>
                obtain ⟨t, rfl, htn, gdm, gm, gms⟩ := hrel
                rename World => wm
                have gbm := gb.out.grown gm.out (by intro e; injection e with e; omega)
                have gBm := Lib.hid (below_grownby hBe.out (grow_same ga.out gm.out) (by omega) (by intro k hk; cases hk; exact Nat.le_refl _))
                obtain ⟨q0', q1', q2'⟩ := gbm.c3
                have q3' := fun k => gbm.frozen k
                have HB := Lib.hid gbm
                clear gbm
                by_cases htlt : t < n
                · obtain ⟨t0, t1, t2⟩ := hOr.out _ gBm.out t (by rw [HN.out]; exact htlt)
                  have heq1 := fun W => eql23 W (nth L t) (F m)
                  by_cases hhit : nth L t = F m
                  · rw [decide_eq_true hhit] at heq1
                    have d0 := gdm.out.cell t
                    have d1 := gdm.out.frozen t
                    rw [bools_at _ _ _ (marks_at (by rw [HN.out]; exact htlt))] at d0
                    have HHit := Lib.hid hhit
                    clear hhit
                    go_wp2
                    go_quiet (fail)
                    go_wp2
                    go_roundw
                    case rel =>
                      exact ⟨t + 1, by simp, by omega, by show Blk _ _ _ _; rw [marks_hit (by rw [HN.out]; exact htlt) HHit.out, ← bools_set]; exact (gdm.out.drewN _).set_ t _, grow_same (grow_same gm.out (grow_drewN _ _ _)) (grow_set _ _ _ _), by simpa [World.setCell] using gms⟩
                    case measure => simp [intOf]; omega
                  · rw [decide_eq_false hhit] at heq1
                    have HHit := Lib.hid hhit
                    clear hhit
                    go_wp2
                    go_quiet (fail)
                    go_wp2
                    go_roundw
                    case rel =>
                      exact ⟨t + 1, by simp, by omega, by show Blk _ _ _ _; rw [marks_miss (by rw [HN.out]; exact htlt) HHit.out]; exact (gdm.out.drewN _), grow_same gm.out (grow_drewN _ _ _), gms⟩
                    case measure => simp [intOf]; omega
                · have hte : t = n := by omega
                  have gd2 := gdm.out
                  rw [marks_all _ _ _ _ (by rw [HN.out]; omega), List.append_assoc] at gd2
                  have HG := Lib.hid gd2
                  clear gd2
                  have hcall := fun W => HX.out (F m) W (HFd.out.2 m) (HFd.out.1 m)
                  rw [← HFs.out m] at hcall
                  generalize turnN s (F m) = tn at *
                  go_wp2_with (go_at_call 54; refine (hcall _).mono ?_; rintro e w5 ⟨rfl, hb5⟩; obtain ⟨hc5, hf5⟩ := bcell hb5)
                  go_roundw
                  case rel =>
                    have e1 : (List.range (m + 1)).map F = (List.range m).map F ++ [F m] := by rw [List.range_succ, List.map_append]; rfl
                    refine ⟨m + 1, A1, c1, rfl, by omega, ?_, ?_, ?_, ?_, ?_⟩
                    · show World.ownsRow _ _ _ _ _ _ _
                      rw [e1, rowOf_snoc]
                      exact own_set3 (own_below (own_grown go.out gm.out (by intro k hk; cases hk; omega)) hb5) (Nat.lt_succ_self _) _ _ _
                    · exact (HB.out.below' hb5).put3 _ _ _
                    · show Blk _ _ _ _
                      rw [e1]
                      exact (HG.out.below' hb5).far3 (by omega) _ _ _
                    · exact grow_own (grow_own (grow_own (grow_same (grow_same ga.out gm.out) (grow_below hb5 _)) (grow_set _ _ _ _) (by intro k hk; cases hk; exact Nat.le_refl _)) (grow_set _ _ _ _) (by intro k hk; cases hk; exact Nat.le_refl _)) (grow_set _ _ _ _) (by intro k hk; cases hk; exact Nat.le_refl _)
                    · have := hb5.size
                      simp [World.setCell]; omega
                  case measure => simp [lenOf]; omega
    · have hie : i = n := by omega
      go_wp2
      refine bodyPost_ret (v := .tuple #[.slice Ao no co, .int .i64 0]) (by simp [results, Try.results14, go_sem]) rfl ⟨_, rfl, ?_, hB1.out.trans (below_weak hBe.out (hB1.out.size))⟩
      have := hLL.out.base (base' := w.heap.size) (by have := hB1.out.size; omega)
      rw [← hie]
      exact this

end Go.Proofs.Ytljhbjkdifmonaa

namespace Go.Proofs.Ytljhbjkdifmonaa
open Go.RowKit Pq

/-- The law's own comparison of two rows: equal rows. -/
theorem same_any (l : List Bin) (hlen : l.length ≤ 1000000) (w : World) (b1 b2 : Nat) (u v : Value) (h1 : w.ownsRow b1 23 3 u l.length (rowOf l)) (h2 : w.ownsRow b2 23 3 v l.length (rowOf l)) :
    Calls Try.prog 16 #[u, v] w fun e w' => e = .returned (.bool true) ∧ ∃ m, w' = w.drewN m := by
  obtain ⟨A, c, rfl⟩ := own_slice h1
  obtain ⟨A', c', rfl⟩ := own_slice h2
  have hne1 : ((l.length : Int) != (l.length : Int)) = false := by simp
  have H := Lib.hid (And.intro h1 h2)
  clear h1 h2
  generalize hn : l.length = n at *
  have HN := Lib.hid hn
  clear hn
  go_enter Try.func16, Try.ntmps16
  go_wp2
  go_loopw [13] (fun u wr => ∃ (t : Nat), u = .int .i64 t ∧ t ≤ n ∧ ∃ m, wr = w.drewN m) (fun u _ => (n - intOf u).toNat)
  case atStart => exact ⟨0, rfl, by omega, 0, rfl⟩
  case round =>
    obtain ⟨t, rfl, htn, m, rfl⟩ := hrel
    by_cases hlt : t < n
    · have hn0 : 0 < n := by omega
      obtain ⟨g, hA, hg⟩ := own_at H.out.1 hn0
      obtain ⟨g', hA', hg'⟩ := own_at H.out.2 hn0
      subst hA hA'
      obtain ⟨x0, x1, x2⟩ := own_bin (HN.out.symm ▸ H.out.1) (k := t) (by rw [HN.out]; exact hlt)
      obtain ⟨y0, y1, y2⟩ := own_bin (HN.out.symm ▸ H.out.2) (k := t) (by rw [HN.out]; exact hlt)
      have hne := fun W => neq23 W (nth l t) (nth l t)
      rw [decide_eq_true rfl] at hne
      simp only [Bool.not_true] at hne
      go_wp2
      go_quiet (fail)
      go_wp2
      go_roundw
      case rel => exact ⟨t + 1, by simp, by omega, m + nq, rfl⟩
      case measure => simp [intOf]; omega
    · go_wp2
      go_ret
      exact ⟨rfl, m, rfl⟩

end Go.Proofs.Ytljhbjkdifmonaa

/- The shelf's contract for slices.SortFunc, laid at this program (lay-plain.mjs wrote the laying). -/
namespace Go.Proofs.Ytljhbjkdifmonaa
open Go.Shelf
def laysSort_ren : Go.Shelf.Ren := ⟨fun | 6 => 48 | 15 => 82 | 14 => 81 | 28 => 106 | 29 => 79 | 20 => 98 | 21 => 99 | 22 => 100 | 23 => 101 | 24 => 102 | 25 => 103 | 26 => 104 | 27 => 105 | 46 => 119 | 47 => 120 | 48 => 121 | 49 => 122 | 50 => 123 | 57 => 135 | n => n, fun | 22 => 32 | 24 => 23 | 25 => 66 | 3 => 3 | 39 => 94 | 0 => 0 | 53 => 118 | 55 => 91 | 4 => 4 | 46 => 112 | 45 => 111 | 50 => 84 | 5 => 5 | 9 => 9 | 66 => 136 | 70 => 140 | 76 => 152 | 77 => 153 | n => n, fun | n => n⟩
theorem laysSort : Go.Proofs.SlLaysF0.n6 Try.prog laysSort_ren := {
  mixed := by kernel_rfl
  f6 := ⟨Try.f48.name, by decide, Try.func48.trans (congrArg some (by kernel_rfl))⟩
  f14 := ⟨Try.f81.name, by decide, Try.func81.trans (congrArg some (by kernel_rfl))⟩
  f15 := Try.func82.trans (congrArg some (by kernel_rfl))
  f20 := ⟨Try.f98.name, by decide, Try.func98.trans (congrArg some (by kernel_rfl))⟩
  f21 := ⟨Try.f99.name, by decide, Try.func99.trans (congrArg some (by kernel_rfl))⟩
  f22 := ⟨Try.f100.name, by decide, Try.func100.trans (congrArg some (by kernel_rfl))⟩
  f23 := ⟨Try.f101.name, by decide, Try.func101.trans (congrArg some (by kernel_rfl))⟩
  f24 := ⟨Try.f102.name, by decide, Try.func102.trans (congrArg some (by kernel_rfl))⟩
  f25 := ⟨Try.f103.name, by decide, Try.func103.trans (congrArg some (by kernel_rfl))⟩
  f26 := ⟨Try.f104.name, by decide, Try.func104.trans (congrArg some (by kernel_rfl))⟩
  f27 := ⟨Try.f105.name, by decide, Try.func105.trans (congrArg some (by kernel_rfl))⟩
  f28 := Try.func106.trans (congrArg some (by kernel_rfl))
  f29 := Try.func79.trans (congrArg some (by kernel_rfl))
  f46 := ⟨Try.f119.name, by decide, Try.func119.trans (congrArg some (by kernel_rfl))⟩
  f47 := Try.func120.trans (congrArg some (by kernel_rfl))
  f48 := Try.func121.trans (congrArg some (by kernel_rfl))
  f49 := ⟨Try.f122.name, by decide, Try.func122.trans (congrArg some (by kernel_rfl))⟩
  f50 := ⟨Try.f123.name, by decide, Try.func123.trans (congrArg some (by kernel_rfl))⟩
  f57 := ⟨Try.f135.name, by decide, Try.func135.trans (congrArg some (by kernel_rfl))⟩
  t0 := Try.underlying0
  a0 := Try.isAgg0
  z0 := Try.sizeOf0
  v0 := Try.zeroValue0
  t3 := Try.underlying3
  a3 := Try.isAgg3
  z3 := Try.sizeOf3
  v3 := Try.zeroValue3
  t4 := Try.underlying4
  a4 := Try.isAgg4
  z4 := Try.sizeOf4
  v4 := Try.zeroValue4
  t5 := Try.underlying5
  a5 := Try.isAgg5
  z5 := Try.sizeOf5
  v5 := Try.zeroValue5
  t9 := Try.underlying9
  a9 := Try.isAgg9
  z9 := Try.sizeOf9
  v9 := Try.zeroValue9
  t22 := Try.underlying32
  a22 := Try.isAgg32
  z22 := Try.sizeOf32
  v22 := Try.zeroValue32
  t25 := Try.underlying66
  a25 := Try.isAgg66
  z25 := Try.sizeOf66
  v25 := Try.zeroValue66
  t39 := Try.underlying94
  a39 := Try.isAgg94
  z39 := Try.sizeOf94
  v39 := Try.zeroValue94
  t45 := Try.underlying111
  a45 := Try.isAgg111
  z45 := Try.sizeOf111
  v45 := Try.zeroValue111
  t46 := Try.underlying112
  a46 := Try.isAgg112
  z46 := Try.sizeOf112
  v46 := Try.zeroValue112
  t50 := Try.underlying84
  a50 := Try.isAgg84
  z50 := Try.sizeOf84
  v50 := Try.zeroValue84
  t53 := Try.underlying118
  a53 := Try.isAgg118
  z53 := Try.sizeOf118
  v53 := Try.zeroValue118
  t55 := Try.underlying91
  a55 := Try.isAgg91
  z55 := Try.sizeOf91
  v55 := Try.zeroValue91
  t66 := Try.underlying136
  a66 := Try.isAgg136
  z66 := Try.sizeOf136
  v66 := Try.zeroValue136
  t70 := Try.underlying140
  a70 := Try.isAgg140
  z70 := Try.sizeOf140
  v70 := Try.zeroValue140
  t76 := Try.underlying152
  a76 := Try.isAgg152
  z76 := Try.sizeOf152
  v76 := Try.zeroValue152
  t77 := Try.underlying153
  a77 := Try.isAgg153
  z77 := Try.sizeOf153
  v77 := Try.zeroValue153 }
end Go.Proofs.Ytljhbjkdifmonaa

namespace Go.Proofs.Ytljhbjkdifmonaa
open Go.Shelf Go.RowKit Go.Lib Go.Sort Pq

instance : Inhabited Bin := ⟨⟨0, 0, 0⟩⟩

instance (f g : Bin) : Decidable (Lt f g) := by unfold Lt; infer_instance

theorem rises_lt (f g : Bin) : ltOf risesI f g = decide (Lt f g) := by
  unfold ltOf
  rw [Bool.eq_iff_iff, decide_eq_true_iff, decide_eq_true_iff]
  unfold risesI or3 cmpI Lt
  repeat' split
  all_goals first | omega | (simp at *; omega)
theorem swo_rises : SWO (ltOf risesI) where
  irrefl x := by rw [rises_lt]; simp [Lt.irrefl]
  trans x y z h1 h2 := by rw [rises_lt, decide_eq_true_iff] at *; exact h1.trans h2
  ntrans x y z h1 h2 := by rw [rises_lt, decide_eq_false_iff_not] at *; unfold Lt at *; omega
theorem rises_tot (x y : Bin) (h1 : ltOf risesI x y = false) (h2 : ltOf risesI y x = false) : x = y := by
  rw [rises_lt, decide_eq_false_iff_not] at *
  unfold Lt at *
  exact Bin.ext' (by omega) (by omega) (by omega)

theorem cmpLays49 (blk off size : Nat) (w : World) : CmpLays Try.prog 49 #[] binCells 3 risesI blk off size w :=
by
  intro m os dk _ x y
  refine (rises_any x.a x.b x.c y.a y.b y.c _).mono ?_
  rintro e w' ⟨h, rfl⟩
  refine ⟨h, 1, #[Obj.cells #[Value.int IntKind.i64 x.a, Value.int IntKind.i64 x.b, Value.int IntKind.i64 x.c] 23, Obj.cells #[Value.int IntKind.i64 y.a, Value.int IntKind.i64 y.b, Value.int IntKind.i64 y.c] 23, Obj.cells #[Value.int IntKind.i64 (cmpI x.a y.a), Value.int IntKind.i64 (cmpI x.b y.b), Value.int IntKind.i64 (cmpI x.c y.c)] 3], ?_⟩
  rw [alloc_eq_grow, alloc_eq_grow, alloc_eq_grow, grow_grow, grow_grow, drew_grow]
  rfl

theorem rowOf_nth {l : List Bin} {j : Nat} (h : j < l.length * 3) : (rowOf l)[j]? = some (binCells (nth l (j / 3)))[j % 3]! := by
  obtain ⟨h1, h2, h3⟩ := rowOf_at (l := l) (k := j / 3) (by omega)
  have e : j % 3 = 0 ∨ j % 3 = 1 ∨ j % 3 = 2 := by omega
  rcases e with e | e | e
  · rw [show j = j / 3 * 3 by omega, h1, show j / 3 * 3 / 3 = j / 3 by omega, show j / 3 * 3 % 3 = 0 by omega]; rfl
  · rw [show j = j / 3 * 3 + 1 by omega, h2, show (j / 3 * 3 + 1) / 3 = j / 3 by omega, show (j / 3 * 3 + 1) % 3 = 1 by omega]; rfl
  · rw [show j = j / 3 * 3 + 2 by omega, h3, show (j / 3 * 3 + 2) / 3 = j / 3 by omega, show (j / 3 * 3 + 2) % 3 = 2 by omega]; rfl
theorem nth_arr {l : List Bin} {k : Nat} (h : k < l.length) : l.toArray[k]! = nth l k := by
  rw [nth_eq h]; simp [h]
theorem flat_rowOf (l : List Bin) : flatK binCells 3 l.toArray = (rowOf l).toArray := by
  apply Array.ext_getElem?
  intro j
  by_cases h : j < l.length * 3
  · simp only [flatK]
    rw [show (rowOf l).toArray[j]? = (rowOf l)[j]? from List.getElem?_toArray .., rowOf_nth h, Array.getElem?_map, Array.getElem?_range, if_pos (by simpa using h)]
    rw [Option.map_some, nth_arr (by omega)]
  · rw [Array.getElem?_eq_none (by simp; omega), List.getElem?_toArray, List.getElem?_eq_none (by rw [rowOf_length]; omega)]

theorem put_take (F : List Value) (cur : Array Value) (h : F.length ≤ cur.size) : (putCells id 0 F.toArray cur).toList.take F.length = F := by
  apply List.ext_getElem?
  intro j
  by_cases hj : j < F.length
  · rw [List.getElem?_take_of_lt hj]
    unfold putCells
    have h2 : j < cur.size := by omega
    simp [hj, h2]
  · rw [List.getElem?_eq_none (by rw [List.length_take]; omega), List.getElem?_eq_none (by omega)]
theorem put_size (F : List Value) (cur : Array Value) : (putCells id 0 F.toArray cur).size = cur.size := by
  unfold putCells; simp
theorem sorted_block (w : World) (g nq : Nat) (l' : List Bin) (os : Array Obj) (cur : Array Value) (hg : w.heap[g]? = some (.cells cur 23 (0, 0))) :
    (sortWorldK binCells 3 w g 0 nq l'.toArray os).heap[g]? = some (.cells (putCells id 0 (rowOf l').toArray cur) 23 (0, 0)) := by
  have hlt : g < w.heap.size := (Array.getElem?_eq_some_iff.1 hg).1
  unfold sortWorldK putRowK
  rw [flat_rowOf]
  show ((w.heap.modify g (onCells (putCells id 0 (rowOf l').toArray))) ++ os)[g]? = _
  rw [Array.getElem?_append_left (by simpa using hlt), Array.getElem?_modify, if_pos rfl, hg]
  rfl
theorem sorted_below (w : World) (g nq base : Nat) (l' : List Bin) (os : Array Obj) (hb : base ≤ g) (hlt : g < w.heap.size) : Below base w (sortWorldK binCells 3 w g 0 nq l'.toArray os) := by
  unfold sortWorldK putRowK
  refine ⟨rfl, rfl, rfl, ?_, fun i hi => ?_⟩
  · simp [grow, putRow, mapBlock, ahead]
  · show ((w.heap.modify g (onCells (putCells id 0 (flatK binCells 3 l'.toArray)))) ++ os)[i]? = _
    rw [Array.getElem?_append_left (by simp; omega), Array.getElem?_modify, if_neg (by omega)]

theorem sort_any (l : List Bin) (w : World) (base : Nat) (v : Value) (hown : w.ownsRow base 23 3 v l.length (rowOf l)) (hlen : l.length ≤ 1000000) :
    Calls Try.prog 48 #[v, .func (.func 49) #[] #[]] w fun e w' => e = .returned (.tuple #[]) ∧ w'.ownsRow base 23 3 v l.length (rowOf (l.mergeSort fun x y => !(ltOf risesI) y x)) ∧ Below base w w' := by
  obtain ⟨A, c, rfl⟩ := own_slice hown
  by_cases hn : l.length = 0
  · have e : l = [] := List.length_eq_zero_iff.1 hn
    subst e
    have h := AnyF.slices_SortFunc_none laysSort A c (.func (.func 49) #[] #[]) w
    exact h.mono fun e w' ⟨he, hw⟩ => ⟨he, by rw [hw]; simpa using hown, by rw [hw]; exact Below.refl _ _⟩
  · obtain ⟨g, hA, hg1, hg2⟩ := own_at hown (by omega)
    subst hA
    have hown' := hown
    obtain ⟨hl, hr⟩ := hown'
    rcases hr with ⟨h1, _⟩ | ⟨g', cap, cur, h1, hb, hg, hc1, hc2, hc3, hc4⟩
    · simp at h1
    · simp only [Value.slice.injEq, Option.some.injEq, Addr.mk.injEq] at h1
      obtain ⟨⟨rfl, _, _⟩, _, rfl⟩ := h1
      have hH : HoldsK binCells 3 w g 0 l.toArray := by
        intro j hj
        have hj2 : j < l.length * 3 := by simpa using hj
        refine ⟨?_, ?_⟩
        · rw [Nat.zero_add, hown.cellAt j hj2, rowOf_nth hj2, flat_rowOf]
          have : (rowOf l).toArray[j]! = (binCells (nth l (j / 3)))[j % 3]! := by
            have h2 := rowOf_nth hj2
            simp [h2]
          rw [this]; rfl
        · exact Blk.frozen (cs := cur) hg _
      have eg : ∀ args w, (callFunc 49 args).run Try.prog w = .ok (.enter 49 args) w := enters_of Try.func49 (by kernel_rfl) rfl
      have h := AnyQ.slices_SortFunc_total laysSort 3 Try.isAgg23 Try.sizeOf23 binCells (fun _ => rfl) binCells_one risesI swo_rises 49 #[] g 0 c l.toArray w eg (cmpLays49 g 0 _ w) hH hg2 (by simp; omega) rises_tot
      change Calls Try.prog 48 #[.slice (some ⟨g, 0, none⟩) l.length c, .func (.func 49) #[] #[]] w _ at h
      refine h.mono fun e w' ⟨he, nq, os, hw⟩ => ⟨he, ?_, ?_⟩
      · rw [hw]
        have hlen' : (l.mergeSort fun x y => !(ltOf risesI) y x).length = l.length := List.length_mergeSort _
        refine ⟨by rw [rowOf_length, hlen'], .inr ⟨g, c, _, rfl, hb, sorted_block w g nq _ os cur hg, hc1, hc2, by rw [put_size]; exact hc3, ?_⟩⟩
        have h3 := put_take (rowOf (l.mergeSort fun x y => !(ltOf risesI) y x)) cur (by rw [rowOf_length, hlen', hc3]; exact Nat.mul_le_mul_right _ hc1)
        rw [rowOf_length, hlen'] at h3
        exact h3
      · rw [hw]
        exact sorted_below w g nq base _ os hb hg2

/-- The list sorted is the document's list. -/
theorem sorted_eq (l m : List Bin) (hl : l.Nodup) (hm : m.Pairwise Lt) (h : ∀ f, f ∈ l ↔ f ∈ m) : (l.mergeSort fun x y => !(ltOf risesI) y x) = m := by
  have hp := List.mergeSort_perm l (fun x y => !(ltOf risesI) y x)
  have hs := List.pairwise_mergeSort (le := fun x y => !(ltOf risesI) y x) (fun a b c h1 h2 => by
    simp only [rises_lt, Bool.not_eq_true', decide_eq_false_iff_not] at *; unfold Lt at *; omega) (fun a b => by
    simp only [rises_lt, Bool.or_eq_true, Bool.not_eq_true', decide_eq_false_iff_not]; unfold Lt; omega) l
  refine eq_of_sorted _ _ ?_ hm fun f => by rw [hp.mem_iff, h f]
  have hn : (l.mergeSort fun x y => !(ltOf risesI) y x).Nodup := hp.nodup_iff.2 hl
  refine (List.pairwise_and_iff.2 ⟨hs, hn⟩).imp fun {x y} h => ?_
  obtain ⟨h1, h2⟩ := h
  simp only [rises_lt, Bool.not_eq_true', decide_eq_false_iff_not] at h1
  apply Decidable.byContradiction
  intro h3
  apply h2
  unfold Lt at *
  exact Bin.ext' (by omega) (by omega) (by omega)

end Go.Proofs.Ytljhbjkdifmonaa

/- Maps keyed by forms: look-up and store, straight on the map's block. -/
namespace Go.Proofs.Ytljhbjkdifmonaa
open Go.RowKit Pq Go.MapKept

def aggB (f : Bin) : Value := .agg #[.int .i64 f.a, .int .i64 f.b, .int .i64 f.c]

def fnd (f : Bin) : List (Bin × Value) → Nat → Option (Nat × Value)
  | [], _ => none
  | p :: r, i => if f = p.1 then some (i, p.2) else fnd f r (i + 1)
def lookV (l : List (Bin × Value)) (f : Bin) : Option Value := (fnd f l 0).map (·.2)

theorem fnd_shift (f : Bin) : ∀ (l : List (Bin × Value)) (i : Nat), fnd f l (i + 1) = (fnd f l i).map fun p => (p.1 + 1, p.2)
  | [], _ => rfl
  | p :: r, i => by
    unfold fnd
    split
    · rfl
    · exact fnd_shift f r (i + 1)
theorem lookV_nil (f : Bin) : lookV [] f = none := rfl
theorem lookV_cons (p : Bin × Value) (l : List (Bin × Value)) (f : Bin) : lookV (p :: l) f = if f = p.1 then some p.2 else lookV l f := by
  unfold lookV
  rw [fnd]
  split
  · rfl
  · rw [fnd_shift]; simp [Function.comp_def]
theorem lookV_snoc (f : Bin) (v : Value) (g : Bin) : ∀ l : List (Bin × Value), lookV l f = none → lookV (l ++ [(f, v)]) g = if g = f then some v else lookV l g
  | [], _ => by simp [lookV_cons, lookV_nil]
  | p :: r, h => by
    rw [lookV_cons] at h
    rw [List.cons_append, lookV_cons, lookV_cons]
    by_cases hp : f = p.1
    · rw [if_pos hp] at h; cases h
    · rw [if_neg hp] at h
      rw [lookV_snoc f v g r h]
      by_cases hg : g = p.1
      · rw [if_pos hg, if_neg (by rintro rfl; exact hp hg), if_pos hg]
      · rw [if_neg hg, if_neg hg]
theorem lookV_set (f : Bin) (v : Value) (g : Bin) : ∀ (l : List (Bin × Value)) (i : Nat) (u : Value), fnd f l 0 = some (i, u) → lookV (l.set i (f, v)) g = if g = f then some v else lookV l g
  | [], _, _, h => by simp [fnd] at h
  | p :: r, i, u, h => by
    rw [fnd] at h
    by_cases hp : f = p.1
    · rw [if_pos hp] at h
      simp only [Option.some.injEq, Prod.mk.injEq] at h
      obtain ⟨rfl, _⟩ := h
      rw [List.set_cons_zero, lookV_cons, lookV_cons, ← hp]
      split <;> rfl
    · rw [if_neg hp, fnd_shift] at h
      obtain ⟨⟨j, u'⟩, hj, he⟩ := Option.map_eq_some_iff.1 h
      simp only [Prod.mk.injEq] at he
      obtain ⟨rfl, rfl⟩ := he
      rw [List.set_cons_succ, lookV_cons, lookV_cons, lookV_set f v g r j u' hj]
      by_cases hg : g = p.1
      · rw [if_pos hg, if_neg (by rintro rfl; exact hp hg), if_pos hg]
      · rw [if_neg hg, if_neg hg]
theorem fnd_none {f : Bin} {l : List (Bin × Value)} (h : fnd f l 0 = none) : lookV l f = none := by unfold lookV; rw [h]; rfl
theorem fnd_lt (f : Bin) : ∀ (l : List (Bin × Value)) (i : Nat) (u : Value), fnd f l 0 = some (i, u) → i < l.length
  | [], _, _, h => by simp [fnd] at h
  | p :: r, i, u, h => by
    rw [fnd] at h
    by_cases hp : f = p.1
    · rw [if_pos hp] at h
      simp only [Option.some.injEq, Prod.mk.injEq] at h
      obtain ⟨rfl, _⟩ := h
      simp
    · rw [if_neg hp, fnd_shift] at h
      obtain ⟨⟨j, u'⟩, hj, he⟩ := Option.map_eq_some_iff.1 h
      simp only [Prod.mk.injEq] at he
      obtain ⟨rfl, rfl⟩ := he
      have := fnd_lt f r j u' hj
      simp; omega

/-- What the entries hold. -/
def kv (e : MapEntry) : Value × Value := (e.key, e.val)
def kb (p : Bin × Value) : Value × Value := (aggB p.1, p.2)

theorem equal23 (w : World) (f g : Bin) : (Op.equal 23 (aggB f) (aggB g)).run Try.prog w = .ok (decide (f = g)) w := by
  have h := eq23 9998 w f.a f.b f.c g.a g.b g.c
  have e : (f.a == g.a && (f.b == g.b && f.c == g.c)) = decide (f = g) := by
    rw [Bool.eq_iff_iff]; simp
    constructor
    · rintro ⟨h1, h2, h3⟩; exact Bin.ext' h1 h2 h3
    · rintro rfl; simp
  rw [e] at h
  simpa [Op.equal, Op.maxDepth, aggB] using h

theorem find_run (f : Bin) (w : World) : ∀ (l : List MapEntry) (ps : List (Bin × Value)) (i : Nat), l.map kv = ps.map kb → (Instr.findAsking 23 (aggB f) l i).run Try.prog w = .ok (fnd f ps i) w
  | [], [], i, _ => by simp [Instr.findAsking, fnd]
  | [], p :: ps, i, h => by simp at h
  | e :: l, [], i, h => by simp at h
  | e :: l, p :: ps, i, h => by
    simp only [List.map_cons, List.cons.injEq] at h
    obtain ⟨h1, h2⟩ := h
    have hk : e.key = aggB p.1 := congrArg Prod.fst h1
    have hv : e.val = p.2 := congrArg Prod.snd h1
    rw [Instr.findAsking, fnd]
    simp only [Sem.run_bind, hk, equal23, Result.andThen_ok]
    by_cases hp : f = p.1
    · simp [hp, hv]
    · simp [hp]
      exact find_run f w l ps (i + 1) h2

theorem findNow23 (f : Bin) (ds : Array Field) : ∀ (l : List MapEntry) (ps : List (Bin × Value)) (i : Nat), l.map kv = ps.map kb → Instr.findNow (.struct ds) (aggB f) l i = if l = [] then some none else none
  | [], _, _, _ => by simp [Instr.findNow]
  | e :: l, ps, i, _ => by simp [Instr.findNow, Instr.sameNow]

theorem findKey23 (f : Bin) (w : World) (l : List MapEntry) (ps : List (Bin × Value)) (h : l.map kv = ps.map kb) : (Instr.findKey 23 (aggB f) l).run Try.prog w = .ok (fnd f ps 0) w := by
  have hu := run_underlying (P := Try.prog) (w := w) Try.underlying23
  unfold Instr.findKey
  simp only [Sem.run_bind, hu, Result.andThen_ok]
  rw [findNow23 f _ l ps 0 h]
  by_cases hl : l = []
  · subst hl
    have : ps = [] := by simpa using h
    subst this
    simp [fnd]
  · simp only [if_neg hl]
    exact find_run f w l ps 0 h

theorem ck23 (x y z : Int) (b : Bool) (w : World) : (Instr.checkKey b 10000 23 (.agg #[.int .i64 x, .int .i64 y, .int .i64 z])).run Try.prog w = .ok () w := by
  kernel_rfl
theorem checkKey23 (f : Bin) (b : Bool) (w : World) : (Instr.checkKey b 10000 23 (aggB f)).run Try.prog w = .ok () w := ck23 f.a f.b f.c b w

theorem sameBits23 (f : Bin) : Instr.sameBits 10000 (aggB f) (aggB f) = true := by
  simp [aggB, Instr.sameBits]
theorem fnd_key (f : Bin) : ∀ (l : List (Bin × Value)) (i : Nat) (u : Value), fnd f l 0 = some (i, u) → l[i]? = some (f, u)
  | [], _, _, h => by simp [fnd] at h
  | p :: r, i, u, h => by
    rw [fnd] at h
    by_cases hp : f = p.1
    · rw [if_pos hp] at h
      simp only [Option.some.injEq, Prod.mk.injEq] at h
      obtain ⟨rfl, rfl⟩ := h
      simp [hp]
    · rw [if_neg hp, fnd_shift] at h
      obtain ⟨⟨j, u'⟩, hj, he⟩ := Option.map_eq_some_iff.1 h
      simp only [Prod.mk.injEq] at he
      obtain ⟨rfl, rfl⟩ := he
      simpa using fnd_key f r j u' hj

/-- The block b is a map that holds just V. -/
def MapV (w : World) (b : Nat) (V : Bin → Option Value) : Prop :=
  ∃ (es : Array MapEntry) (clock : Nat) (ps : List (Bin × Value)), w.heap[b]? = some (.map es clock) ∧ es.toList.map kv = ps.map kb ∧ ∀ f, lookV ps f = V f

theorem MapV.made (w : World) : MapV (w.alloc (.map #[] 0)) w.heap.size fun _ => none :=
  ⟨#[], 0, [], heap_alloc_new w _, rfl, fun _ => rfl⟩
theorem MapV.grown {w w' : World} {b : Nat} {V : Bin → Option Value} (h : MapV w b V) {row : Option Nat} (hg : w.grownBy w' row) (hne : some b ≠ row) : MapV w' b V := by
  obtain ⟨es, clock, ps, hb, h1, h2⟩ := h
  exact ⟨es, clock, ps, (hg.block b (Array.getElem?_eq_some_iff.1 hb).1 hne).trans hb, h1, h2⟩
theorem MapV.lt {w : World} {b : Nat} {V : Bin → Option Value} (h : MapV w b V) : b < w.heap.size := by
  obtain ⟨es, clock, ps, hb, _⟩ := h
  exact (Array.getElem?_eq_some_iff.1 hb).1

theorem MapV.look {w : World} {b : Nat} {V : Bin → Option Value} (h : MapV w b V) (t e : TypeId) (ht : Try.prog.underlying t = some (.map 23 e)) (z : Value) (hz : (zeroValue e).run Try.prog w = .ok z w) (f : Bin) :
    (Instr.lookup t (.map (some b)) (aggB f) false).run Try.prog w = .ok ((V f).getD z) w := by
  obtain ⟨es, clock, ps, hb, h1, h2⟩ := h
  have hu := run_underlying (P := Try.prog) (w := w) ht
  have hf := findKey23 f w es.toList ps h1
  unfold Instr.lookup
  simp only [Sem.run_bind, hu, Result.andThen_ok, Go.MapKept.run_getObj_map (P := Try.prog) hb, Sem.run_pure, checkKey23, hf]
  rw [← h2 f]
  unfold lookV
  cases fnd f ps 0 with
  | none => simp [hz]
  | some p => simp

theorem MapV.put {w : World} {b : Nat} {V : Bin → Option Value} (h : MapV w b V) (t e : TypeId) (ht : Try.prog.underlying t = some (.map 23 e)) (f : Bin) (v : Value) :
    ∃ w', (Instr.mapUpdate t (.map (some b)) (aggB f) v).run Try.prog w = .ok () w' ∧ MapV w' b (fun g => if g = f then some v else V g) ∧ w.grownBy w' (some b) ∧ w'.heap.size = w.heap.size := by
  obtain ⟨es, clock, ps, hb, h1, h2⟩ := h
  have hu := run_underlying (P := Try.prog) (w := w) ht
  have hf := findKey23 f w es.toList ps h1
  have hlen : es.size = ps.length := by have := congrArg List.length h1; simpa using this
  unfold Instr.mapUpdate
  simp only [Sem.run_bind, hu, Result.andThen_ok, Go.MapKept.run_getObj_map (P := Try.prog) hb, checkKey23, hf]
  cases hq : fnd f ps 0 with
  | none =>
    simp only [Go.MapKept.run_setObj_map (P := Try.prog) _ hb]
    refine ⟨_, rfl, ⟨_, _, ps ++ [(f, v)], (heap_set hb).1, ?_, fun g => ?_⟩, ⟨rfl, rfl, rfl, by simp, fun k hk hne => (heap_set hb).2 k (by intro e; exact hne (by rw [e]))⟩, by simp⟩
    · simp [h1, kv, kb]
    · rw [lookV_snoc f v g ps (fnd_none hq), h2]
  | some p =>
    obtain ⟨i, u⟩ := p
    have hi := fnd_lt f ps i u hq
    have hk := fnd_key f ps i u hq
    have hie : i < es.size := by omega
    have hold : es[i].key = aggB f := by
      have h3 : (es.toList.map kv)[i]? = some (kb (f, u)) := by rw [h1, List.getElem?_map, hk]; rfl
      rw [List.getElem?_map, List.getElem?_eq_getElem (by simpa using hie)] at h3
      simp only [Option.map_some, Option.some.injEq] at h3
      exact congrArg Prod.fst h3
    have hold2 : ((es[i]?).map (·.key)).getD (aggB f) = aggB f := by simp [hie, hold]
    have hks : (Instr.keyThatStays (aggB f) (aggB f)).run Try.prog w = .ok (aggB f) w := by
      unfold Instr.keyThatStays
      rw [if_pos (sameBits23 f)]
      rfl
    simp only [hold2, hks, Result.andThen_ok, Sem.run_bind, Go.MapKept.run_setObj_map (P := Try.prog) _ hb]
    refine ⟨_, rfl, ⟨_, _, ps.set i (f, v), (heap_set hb).1, ?_, fun g => ?_⟩, ⟨rfl, rfl, rfl, by simp, fun k hk hne => (heap_set hb).2 k (by intro e; exact hne (by rw [e]))⟩, by simp⟩
    · have e1 : (es.modify i fun e => { e with key := aggB f, val := v }).toList = es.toList.set i { es[i] with key := aggB f, val := v } := by
        apply List.ext_getElem?
        intro k
        by_cases hki : i = k
        · subst hki
          simp [hie]
        · simp [hki]
      rw [e1, List.map_set, h1, List.map_set]
      rfl
    · rw [lookV_set f v g ps i u hq, h2]

theorem wpList_look23 (w : World) {ops : Array Oper} {rest : List Oper} {o : Oper} {a : Act} {Q : Exit → Act → World → Prop}
    (hg : o.guard = none) (m x : Operand) (t : TypeId) (hop : o.op = Op.lookup t m x false) (e : TypeId) (ht : Try.prog.underlying t = some (.map 23 e)) (z : Value) (hz : (zeroValue e).run Try.prog w = .ok z w) (b : Nat) (V : Bin → Option Value)
    (hm : a.eval m = .map (some b)) (hmap : MapV w b V) (f : Bin) (hx : a.eval x = aggB f) (hK : wpList Try.prog ops Q rest (a.put o.dst ((V f).getD z)) w) : wpList Try.prog ops Q (o :: rest) a w := by
  refine wpList_plain hg fun K' hK' => ?_
  have hrun := hmap.look t e ht z hz f
  unfold Oper.wp
  simp [execOp, hop, hm, hx, hrun, Result.andThen]
  exact hK' _ _ hK

theorem wpList_put23 (w : World) {ops : Array Oper} {rest : List Oper} {o : Oper} {a : Act} {Q : Exit → Act → World → Prop}
    (hg : o.guard = none) (m x y : Operand) (t : TypeId) (hop : o.op = Op.mapUpdate t m x y) (e : TypeId) (ht : Try.prog.underlying t = some (.map 23 e)) (b : Nat) (V : Bin → Option Value)
    (hm : a.eval m = .map (some b)) (hmap : MapV w b V) (f : Bin) (hx : a.eval x = aggB f) (v : Value) (hy : a.eval y = v)
    (hK : ∀ w', MapV w' b (fun g => if g = f then some v else V g) → w.grownBy w' (some b) → wpList Try.prog ops Q rest (a.put o.dst undef) w') : wpList Try.prog ops Q (o :: rest) a w := by
  refine wpList_plain hg fun K' hK' => ?_
  obtain ⟨w', hrun, r1, r2, _⟩ := hmap.put t e ht f v
  unfold Oper.wp
  simp [execOp, hop, hm, hx, hy, hrun, Result.andThen]
  exact hK' _ _ (hK w' r1 r2)

end Go.Proofs.Ytljhbjkdifmonaa

namespace Go.Proofs.Ytljhbjkdifmonaa
open Go.RowKit Pq

/-- One of two. -/
def pk2 (f g : Bin) (t : Nat) : Bin := if t = 0 then f else g
theorem ixp0 (a b c x y z : Int) (w : World) : (Instr.index 63 (.agg #[.int .i64 a, .int .i64 b, .int .i64 c, .int .i64 x, .int .i64 y, .int .i64 z]) (.int .i64 0)).run Try.prog w = .ok (.agg #[.int .i64 a, .int .i64 b, .int .i64 c]) w := by kernel_rfl
theorem ixp1 (a b c x y z : Int) (w : World) : (Instr.index 63 (.agg #[.int .i64 a, .int .i64 b, .int .i64 c, .int .i64 x, .int .i64 y, .int .i64 z]) (.int .i64 1)).run Try.prog w = .ok (.agg #[.int .i64 x, .int .i64 y, .int .i64 z]) w := by kernel_rfl
theorem ixp (f g : Bin) (t : Nat) (h : t < 2) (w : World) : (Instr.index 63 (.agg #[.int .i64 f.a, .int .i64 f.b, .int .i64 f.c, .int .i64 g.a, .int .i64 g.b, .int .i64 g.c]) (.int .i64 t)).run Try.prog w = .ok (.agg #[.int .i64 (pk2 f g t).a, .int .i64 (pk2 f g t).b, .int .i64 (pk2 f g t).c]) w := by
  rcases (show t = 0 ∨ t = 1 by omega) with rfl | rfl
  · exact ixp0 f.a f.b f.c g.a g.b g.c w
  · exact ixp1 f.a f.b f.c g.a g.b g.c w
theorem pk2_take (s : Int) (f g : Bin) (t : Nat) (h : t < 2) : ([f, g].take (t + 1)).filter (okF s) = ([f, g].take t).filter (okF s) ++ [pk2 f g t].filter (okF s) := by
  rw [← List.filter_append]
  rcases (show t = 0 ∨ t = 1 by omega) with rfl | rfl <;> rfl
theorem prim_gcd (f : Bin) : (gcdTo f.a f.b f.c 3 = 1) ↔ prim f := by
  simp [gcdTo, prim, pick3]
theorem rowP_zero (s b n : Int) : rowP s b n 0 = [] := rfl
theorem rowP_succ (s b n : Int) (k : Nat) : rowP s b n (k + 1) = rowP s b n k ++ pairP s b n (k + 1) := by
  unfold rowP; rw [range_flat]
theorem listP_zero (d s b0 : Int) : listP d s b0 0 = [] := rfl
theorem listP_succ (d s b0 : Int) (j : Nat) : listP d s b0 (j + 1) = listP d s b0 j ++ rowP s (b0 + 2 * j) ((d - (b0 + 2 * j) * (b0 + 2 * j)).tdiv 4) s.toNat := by
  unfold listP; rw [range_flat]

/-- The forms of S, seen. -/
def seenV (S : List Bin) : Bin → Option Value := fun f => if f ∈ S then some (.bool true) else none
theorem MapV.congr {w : World} {b : Nat} {V V' : Bin → Option Value} (h : MapV w b V) (e : ∀ f, V f = V' f) : MapV w b V' := by
  obtain ⟨es, clock, ps, hb, h1, h2⟩ := h
  exact ⟨es, clock, ps, hb, h1, fun f => (h2 f).trans (e f)⟩
theorem seenV_snoc (S : List Bin) (f g : Bin) : (if g = f then some (.bool true) else seenV S g) = seenV (S ++ [f]) g := by
  unfold seenV
  by_cases h : g = f
  · simp [h]
  · simp [h]

theorem own_binN {w : World} {base g c n : Nat} {l : List Bin} (hn : l.length = n) (h : w.ownsRow base 23 3 (.slice (some ⟨g, 0, none⟩) n c) n (rowOf l)) {k : Nat} (hk : k < n) :
    w.cell? ⟨g, k * 3, none⟩ = some (.int .i64 (nth l k).a) ∧ w.cell? ⟨g, k * 3 + 1, none⟩ = some (.int .i64 (nth l k).b) ∧ w.cell? ⟨g, k * 3 + 2, none⟩ = some (.int .i64 (nth l k).c) := by
  subst hn; exact own_bin h hk
theorem nth_range (F : Nat → Bin) {N t : Nat} (h : t < N) : nth ((List.range N).map F) t = F t := by
  rw [nth_eq (by simpa using h)]; simp
theorem zero4 (W : World) : (zeroValue 4).run Try.prog W = .ok (.bool false) W := by kernel_rfl
theorem run_map67 (W : World) : (Instr.makeMap 67 none).run Try.prog W = .ok (.map (some W.heap.size)) (W.alloc (.map #[] 0)) := by kernel_rfl

theorem all_bad (d : Int) (w : World) (h : 65536 < d ∨ crossB d = false) : Calls Try.prog 12 #[.int .i64 d] w fun e w' => e = .returned (.tuple #[.slice none 0 0, .int .i64 80]) ∧ Below w.heap.size w w' := by
  have hc := fun W => cross_any d W
  by_cases h1 : 65536 < d
  · clear h hc
    go_enter Try.func12, Try.ntmps12
    go_wp2
    go_ret2
    exact ⟨rfl, Below.refl _ _⟩
  · have hx : crossB d = false := by rcases h with h | h; exact absurd h h1; exact h
    rw [hx] at hc
    clear h hx
    go_enter Try.func12, Try.ntmps12
    go_wp2_with (go_at_call 44; refine (hc _).mono ?_; rintro e w' ⟨rfl, rfl⟩)
    go_ret2
    exact ⟨rfl, Below.refl _ _⟩

set_option maxRecDepth 100000 in
set_option maxHeartbeats 8000000 in
theorem all_ok (d s : Int) (w : World) (hcr : Cross d s) (hd : d ≤ 65536) (hx : crossB d = true) (hd4 : d % 4 ≤ 1) (hs : s ≤ 255) :
    Calls Try.prog 12 #[.int .i64 d] w fun e w' => ∃ v, e = .returned (.tuple #[v, .int .i64 0]) ∧ OwnLL w' w.heap.size v (outTo d s (listR d s (2 * s + 1).toNat) (listR d s (2 * s + 1).toNat).length) ∧ Below w.heap.size w w' := by
  have hc := fun W => cross_any d W
  rw [hx] at hc
  obtain ⟨i0, hi, hz0, hz1, hz2⟩ := info_parts info23
  have hroot := fun W => root_any d s W (by have := hcr.pos; omega) (by omega) hcr.root
  have hs0 := hcr.spos
  have hsq := hcr.lt
  have hd0 := hcr.pos
  obtain ⟨S, rfl⟩ := Int.eq_ofNat_of_zero_le (show 0 ≤ s by omega)
  have HC := Lib.hid hcr
  clear hcr hx
  have hb01 : 1 ≤ 2 - d.tmod 2 ∧ 2 - d.tmod 2 ≤ 2 := by rw [Int.tmod_eq_emod_of_nonneg (by omega)]; omega
  obtain ⟨hb1, hb2⟩ := hb01
  have hb0 : Hid (2 - d.tmod 2 = 2 - d % 2) := by show _ = _; rw [Int.tmod_eq_emod_of_nonneg (by omega)]
  have hm2 : 0 ≤ d.tmod 2 := Int.tmod_nonneg _ (by omega)
  go_enter Try.func12, Try.ntmps12
  go_wp2_with (first
    | (go_at_call 44; refine (hc _).mono ?_; rintro e w' ⟨rfl, rfl⟩)
    | (go_at_call 45; refine (hroot _).mono ?_; rintro e w' ⟨rfl, rfl⟩))
  clear hc hroot
  go_loopw [5, 6] (fun u v wr => ∃ (j n : Nat) (b : Int) (A : Option Addr) (c : Nat), u = .slice A n c ∧ v = .int .i64 b ∧ Hid (b = 2 - d % 2 + 2 * (j : Int)) ∧ 1 ≤ b ∧ b ≤ S + 2 ∧ n ≤ 512 * j ∧ j ≤ 200 ∧ Hid (n = (listP d S (2 - d % 2) j).length) ∧ Hid (wr.ownsRow w.heap.size 23 3 (.slice A n c) n (rowOf (listP d S (2 - d % 2) j))) ∧ Hid (Below w.heap.size w wr)) (fun _ v _ => (S + 2 - intOf v).toNat)
  case atStart => exact ⟨0, 0, _, none, 0, rfl, rfl, by show _ = _; have := hb0.out; omega, by omega, by omega, by omega, by omega, by show _ = _; rfl, ⟨rfl, .inl ⟨rfl, rfl⟩⟩, Below.refl _ _⟩
  case round =>
    obtain ⟨j, n, b, A, c, rfl, rfl, hb, hbl, hbu, hn, hj, hlen, hown, hbe⟩ := hrel
    rename World => wo
    by_cases hlt : b ≤ S
    · have hbb0 : 0 ≤ b * b := sq_nonneg b
      have hbb1 : b * b ≤ (S : Int) * S := mul_self_le (a := b) (b := S) (by omega) hlt
      have hq0 : 0 ≤ (d - b * b).tdiv 4 := Int.tdiv_nonneg (by omega) (by omega)
      have hq1 : (d - b * b).tdiv 4 ≤ 16384 := by have := (tdiv_bound (d - b * b) 4 65536 (by omega) (by omega)).2; rw [Int.tdiv_eq_ediv_of_nonneg (by omega)] at *; omega
      have hP : Hid (listP d S (2 - d % 2) (j + 1) = listP d S (2 - d % 2) j ++ rowP S b ((d - b * b).tdiv 4) S) := by show _ = _; rw [listP_succ, ← hb.out, Int.toNat_natCast]
      generalize hqe : (d - b * b).tdiv 4 = q at *
      go_wp2
      clear hqe
      go_loopw [5, 8] (fun u v wr => ∃ (k m : Nat) (a : Int) (A' : Option Addr) (c' : Nat), u = .slice A' m c' ∧ v = .int .i64 a ∧ Hid (a = (k : Int) + 1) ∧ 1 ≤ a ∧ a ≤ S + 1 ∧ m ≤ n + 2 * k ∧ k ≤ S ∧ Hid (m = (listP d S (2 - d % 2) j ++ rowP S b q k).length) ∧ Hid (wr.ownsRow w.heap.size 23 3 (.slice A' m c') m (rowOf (listP d S (2 - d % 2) j ++ rowP S b q k))) ∧ Hid (Below w.heap.size w wr)) (fun _ v _ => (S + 1 - intOf v).toNat)
      case atStart => exact ⟨0, n, _, A, c, rfl, rfl, by show _ = _; rfl, by omega, by omega, by omega, by omega, by show _ = _; rw [rowP_zero, List.append_nil]; exact hlen.out, by show World.ownsRow _ _ _ _ _ _ _; rw [rowP_zero, List.append_nil]; exact hown.out, hbe.out⟩
      case round =>
        clear hlen hown hbe
        obtain ⟨k, m, a, A', c', rfl, rfl, ha, hal, hau, hm, hk, hlen, hown, hbe⟩ := hrel
        rename World => wk
        by_cases hlt2 : a ≤ S
        · have hR := Lib.hid (rowP_succ S b q k)
          by_cases ht : q % a = 0
          · have htb : (q % a != 0) = false := by simpa using ht
            have HT := Lib.hid ht
            clear ht
            have hPr : Hid (pairP S b q a = [⟨a, b, (-q).tdiv a⟩, ⟨-a, b, q.tdiv a⟩].filter (okF S)) := by
              show _ = _
              unfold pairP; rw [if_pos HT.out]
            obtain ⟨z1, z2⟩ := tdiv_bound q a 16384 (by omega) hq1
            obtain ⟨z3, z4⟩ := tdiv_bound (-q) a 16384 (by omega) (by omega)
            have hix := fun (t : Nat) (ht : t < 2) W => ixp ⟨a, b, (-q).tdiv a⟩ ⟨-a, b, q.tdiv a⟩ t ht W
            have hwi : ∀ t, Within 1073741824 (pk2 ⟨a, b, (-q).tdiv a⟩ ⟨-a, b, q.tdiv a⟩ t) := by
              intro t; unfold pk2; split
              · refine ⟨?_, ?_, ?_⟩ <;> simp only <;> omega
              · refine ⟨?_, ?_, ?_⟩ <;> simp only <;> omega
            have HIX := Lib.hid hix
            have HWI := Lib.hid hwi
            clear hix hwi
            generalize hq3 : (-q).tdiv a = q3 at *
            generalize hq4 : q.tdiv a = q4 at *
            go_wp2
            go_quiet (fail)
            go_wp2
            generalize hPf : listP d S (2 - d % 2) j ++ rowP S b q k = L0 at *
            generalize hg1 : (⟨a, b, q3⟩ : Bin) = f1 at *
            generalize hg2 : (⟨-a, b, q4⟩ : Bin) = f2 at *
            have HPf := Lib.hid hPf
            clear hPf hq3 hq4 hg1 hg2
            go_loopw [5, 66] (fun u v wr => ∃ (t m' : Nat) (A1 : Option Addr) (c1 : Nat), u = .slice A1 m' c1 ∧ v = .int .i64 t ∧ t ≤ 2 ∧ m' ≤ m + t ∧ Hid (m' = (L0 ++ ([f1, f2].take t).filter (okF S)).length) ∧ Hid (wr.ownsRow w.heap.size 23 3 (.slice A1 m' c1) m' (rowOf (L0 ++ ([f1, f2].take t).filter (okF S)))) ∧ Hid (Below w.heap.size w wr)) (fun _ v _ => (2 - intOf v).toNat)
            case atStart => exact ⟨0, m, _, _, rfl, rfl, by omega, by omega, by show _ = _; rw [List.take_zero, List.filter_nil, List.append_nil]; exact hlen.out, by show World.ownsRow _ _ _ _ _ _ _; rw [List.take_zero, List.filter_nil, List.append_nil]; exact own_below hown.out (below_drewN (Below.refl _ _) _), below_drewN hbe.out _⟩
            case round =>
              clear hlen hown hbe
              obtain ⟨t, m', A1, c1, rfl, rfl, ht2, hm', hlen, hown, hbe⟩ := hrel
              rename World => wi
              by_cases htl : t < 2
              · have hix := HIX.out t htl
                have hwf := HWI.out t
                have hTk := Lib.hid (pk2_take S f1 f2 t htl)
                generalize pk2 f1 f2 t = f at *
                have hred := fun W => red_any f S W hwf
                have hpri := fun W => prime_any f.a f.b f.c W hwf.a hwf.b hwf.c
                have HWF := Lib.hid hwf
                clear hwf
                by_cases hR : Red S f
                · rw [decide_eq_true hR] at hred
                  have HR := Lib.hid hR
                  clear hR
                  by_cases hPp : prim f
                  · rw [decide_eq_true ((prim_gcd f).2 hPp)] at hpri
                    have HP := Lib.hid hPp
                    clear hPp
                    have hsz0 : w.heap.size ≤ wi.heap.size := hbe.out.size
                    have HO := Lib.hid (fun W (h : Below wi.heap.size wi W) => own_below hown.out h)
                    go_wp2_with (first
                      | (go_at_call 46; refine (hred _).mono ?_; rintro e w5 ⟨rfl, hb5⟩
                         have g5 := (Blk.new wi 23 #[.int .i64 f.a, .int .i64 f.b, .int .i64 f.c]).below' hb5
                         have gs5 := g5.lt
                         have B5 := Lib.hid (((Below.refl wi.heap.size wi).alloc (Nat.le_refl _) (Obj.cells #[.int .i64 f.a, .int .i64 f.b, .int .i64 f.c] 23)).trans (below_weak hb5 (by simp)))
                         obtain ⟨c50, c51, c52⟩ := g5.c3
                         have G5 := Lib.hid g5
                         clear g5 hb5)
                      | (go_at_call 47; refine (hpri _).mono ?_; rintro e w6 ⟨rfl, hb6⟩
                         have g6 := G5.out.below' hb6
                         have gs6 := g6.lt
                         have B6 := Lib.hid (B5.out.trans (below_weak hb6 (Nat.le_of_lt gs5)))
                         obtain ⟨c60, c61, c62⟩ := g6.c3
                         clear c50 c51 c52 g6 hb6)
                      | (at_builtin
                         refine wpList_append_own _ rfl _ _ 32 rfl w.heap.size 23 i0 (.agg #[.int .i64 0, .int .i64 0, .int .i64 0]) 3 24 Try.underlying32 hi hz0 hz1 hz2 rfl (by decide) (.slice A1 m' c1) _ _ rfl ((HO.out _ B6.out).alloc _) ⟨w6.heap.size, 0, none⟩ 1 1 (binCells f) rfl rfl (bin_at w6 f) (binCells_one f) (by unfold maxLen; omega) (by omega) (by simp; omega) ?_
                         intro v1 w7 hown1 hgrow1 _
                         obtain ⟨A2, c2, rfl⟩ := own_slice hown1
                         have B7 := Lib.hid (below_grownby (((hbe.out.trans (below_weak B6.out hsz0))).alloc (Nat.le_trans hsz0 (Nat.le_of_lt gs6)) _) hgrow1 (by rw [World.size_alloc]; exact Nat.le_succ_of_le (Nat.le_trans hsz0 (Nat.le_of_lt gs6))) (fun x hx => (hown.out.lt x hx).1))
                         have O7 := Lib.hid hown1
                         clear hown1 hgrow1))
                    go_roundw
                    case rel =>
                      have e : L0 ++ ([f1, f2].take (t + 1)).filter (okF S) = (L0 ++ ([f1, f2].take t).filter (okF S)) ++ [f] := by rw [hTk.out, List.append_assoc]; congr 2; simp [okF, HR.out, HP.out]
                      exact ⟨t + 1, m' + 1, A2, c2, rfl, by simp, by omega, by omega, by show _ = _; rw [e, List.length_append, ← hlen.out]; rfl, by show World.ownsRow _ _ _ _ _ _ _; rw [e, rowOf_snoc]; exact O7.out, B7.out⟩
                    case measure => simp [intOf]; omega
                  · rw [decide_eq_false (fun h => hPp ((prim_gcd f).1 h))] at hpri
                    have HP := Lib.hid hPp
                    clear hPp
                    have hsz0 : w.heap.size ≤ wi.heap.size := hbe.out.size
                    go_wp2_with (first
                      | (go_at_call 46; refine (hred _).mono ?_; rintro e w5 ⟨rfl, hb5⟩
                         have g5 := (Blk.new wi 23 #[.int .i64 f.a, .int .i64 f.b, .int .i64 f.c]).below' hb5
                         have gs5 := g5.lt
                         have B5 := Lib.hid (((Below.refl wi.heap.size wi).alloc (Nat.le_refl _) (Obj.cells #[.int .i64 f.a, .int .i64 f.b, .int .i64 f.c] 23)).trans (below_weak hb5 (by simp)))
                         obtain ⟨c50, c51, c52⟩ := g5.c3
                         have G5 := Lib.hid g5
                         clear g5 hb5)
                      | (go_at_call 47; refine (hpri _).mono ?_; rintro e w6 ⟨rfl, hb6⟩
                         have B6 := Lib.hid (B5.out.trans (below_weak hb6 (Nat.le_of_lt gs5)))
                         clear c50 c51 c52 hb6))
                    go_roundw
                    case rel =>
                      have e : L0 ++ ([f1, f2].take (t + 1)).filter (okF S) = (L0 ++ ([f1, f2].take t).filter (okF S)) := by rw [hTk.out]; congr 1; simp [okF, HP.out]
                      exact ⟨t + 1, m', A1, c1, rfl, by simp, by omega, by omega, by show _ = _; rw [e]; exact hlen.out, by show World.ownsRow _ _ _ _ _ _ _; rw [e]; exact own_below hown.out B6.out, hbe.out.trans (below_weak B6.out hsz0)⟩
                    case measure => simp [intOf]; omega
                · rw [decide_eq_false hR] at hred
                  have HR := Lib.hid hR
                  clear hR hpri
                  have hsz0 : w.heap.size ≤ wi.heap.size := hbe.out.size
                  go_wp2_with (first
                      | (go_at_call 46; refine (hred _).mono ?_; rintro e w5 ⟨rfl, hb5⟩
                         have B5 := Lib.hid (((Below.refl wi.heap.size wi).alloc (Nat.le_refl _) (Obj.cells #[.int .i64 f.a, .int .i64 f.b, .int .i64 f.c] 23)).trans (below_weak hb5 (by simp)))
                         clear hb5))
                  go_roundw
                  case rel =>
                    have e : L0 ++ ([f1, f2].take (t + 1)).filter (okF S) = (L0 ++ ([f1, f2].take t).filter (okF S)) := by rw [hTk.out]; congr 1; simp [okF, HR.out]
                    exact ⟨t + 1, m', A1, c1, rfl, by simp, by omega, by omega, by show _ = _; rw [e]; exact hlen.out, by show World.ownsRow _ _ _ _ _ _ _; rw [e]; exact own_below hown.out B5.out, hbe.out.trans (below_weak B5.out hsz0)⟩
                  case measure => simp [intOf]; omega
              · obtain rfl : t = 2 := by omega
                go_wp2
                go_roundw
                case rel =>
                  have e : listP d S (2 - d % 2) j ++ rowP S b q (k + 1) = L0 ++ ([f1, f2].take 2).filter (okF S) := by rw [hR.out, ← ha.out, hPr.out, ← List.append_assoc, HPf.out]; rfl
                  exact ⟨k + 1, m', _, A1, c1, rfl, rfl, by show _ = _; have := ha.out; omega, by omega, by omega, by omega, by have := ha.out; omega, by show _ = _; rw [e]; exact hlen.out, by show World.ownsRow _ _ _ _ _ _ _; rw [e]; exact hown.out, hbe.out⟩
                case measure => simp [intOf]; omega
          · have htb : (q % a != 0) = true := by simpa using ht
            have hPr : Hid (pairP S b q a = []) := by show _ = _; unfold pairP; rw [if_neg ht]
            have HT := Lib.hid ht
            clear ht
            go_wp2
            go_roundw
            case rel =>
              have e : listP d S (2 - d % 2) j ++ rowP S b q (k + 1) = listP d S (2 - d % 2) j ++ rowP S b q k := by rw [hR.out, ← ha.out, hPr.out, List.append_nil]
              exact ⟨k + 1, m, _, A', c', rfl, rfl, by show _ = _; have := ha.out; omega, by omega, by omega, by omega, by have := ha.out; omega, by show _ = _; rw [e]; exact hlen.out, by show World.ownsRow _ _ _ _ _ _ _; rw [e]; exact hown.out, hbe.out⟩
            case measure => simp [intOf]; omega
        · have hkS : k = S := by have := ha.out; omega
          go_wp2
          go_roundw
          case rel =>
            have e : listP d S (2 - d % 2) (j + 1) = listP d S (2 - d % 2) j ++ rowP S b q k := by rw [hP.out, hkS]
            exact ⟨j + 1, m, _, A', c', rfl, rfl, by show _ = _; have := hb.out; omega, by omega, by omega, by omega, by have := hb.out; omega, by show _ = _; rw [e]; exact hlen.out, by show World.ownsRow _ _ _ _ _ _ _; rw [e]; exact hown.out, hbe.out⟩
          case measure => simp [intOf]; omega
    · have hjS : (S : Int) < 2 - d % 2 + 2 * (j : Int) := by have := hb.out; omega
      have hjS2 : 2 - d % 2 + 2 * (j : Int) ≤ S + 2 := by have := hb.out; omega
      have hsl : (listP d S (2 - d % 2) j).mergeSort (fun x y => !(ltOf risesI) y x) = listR d S (2 * (S : Int) + 1).toNat :=
        sorted_eq _ _ (nodup_listP _ _ _ _) (sorted_listR _ _ _) fun f => (mem_listP HC.out rfl hd4 hjS hjS2).trans (mem_listR (by omega) HC.out).symm
      have hll : n = (listR d S (2 * (S : Int) + 1).toNat).length := by rw [← hsl, List.length_mergeSort]; exact hlen.out
      have hso := sort_any (listP d S (2 - d % 2) j) wo w.heap.size (.slice A n c) (by rw [← hlen.out]; exact hown.out) (by rw [← hlen.out]; omega)
      rw [hsl, ← hlen.out] at hso
      have hn2 : n ≤ 102400 := by omega
      have hmm := fun W => run_map67 W
      clear hjS hjS2 hsl hown hlen hb hn hj hbl hbu
      generalize hLe : listR d S (2 * (S : Int) + 1).toNat = L at *
      have HL := Lib.hid hLe
      have HN := Lib.hid hll
      clear hLe hll
      go_wp2_with (go_at_call 48; refine hso.mono ?_; rintro e w2 ⟨rfl, hO2, hB2⟩)
      have HM : Hid (∀ k, k < n → (nth L k).disc = d ∧ Red S (nth L k)) := fun k hk => by
        have h0 : nth L k ∈ listR d S (2 * (S : Int) + 1).toNat := by rw [HL.out]; exact nth_mem (by rw [← HN.out]; exact hk)
        have h1 := (mem_listR (by omega) HC.out).1 h0
        exact ⟨h1.1, h1.2.1⟩
      have HO2 := Lib.hid hO2
      have HB2 := Lib.hid (hbe.out.trans hB2)
      clear hO2 hB2 hso hbe hmm
      obtain ⟨i2, hi2, hy0, hy1, hy2⟩ := info_parts info32
      have hMm := MapV.made w2
      have hMs : (w2.alloc (.map #[] 0)).heap.size = w2.heap.size + 1 := by simp
      go_loopw [12, 86] (fun u v wr => ∃ (i no : Nat) (Ao : Option Addr) (co : Nat), u = .slice Ao no co ∧ v = .int .i64 i ∧ i ≤ n ∧ no ≤ i ∧ Hid (no = (outTo d S L i).length) ∧ Hid (OwnLL wr (w2.heap.size + 1) (.slice Ao no co) (outTo d S L i)) ∧ Hid (MapV wr w2.heap.size (seenV (outTo d S L i).flatten)) ∧ Hid (RowKit.Below w2.heap.size w2 wr) ∧ w2.heap.size < wr.heap.size) (fun _ v _ => (n - intOf v).toNat)
      case atStart => exact ⟨0, 0, none, 0, rfl, rfl, by omega, by omega, by show _ = _; rfl, OwnLL.nil _ _, MapV.congr hMm (fun f => by simp [seenV, outTo]), ((Below.refl _ _).alloc (Nat.le_refl _) _), by simp⟩
      case round =>
        clear hMm hMs
        obtain ⟨i, no, Ao, co, rfl, rfl, hin, hno, hnl, hLL, hMp, hBe, hsz⟩ := hrel
        rename World => wo
        by_cases hlt : i < n
        · obtain ⟨g, hA, hg1, hg2⟩ := own_at HO2.out (by omega)
          subst hA
          have hOr := Lib.hid (fun W (hb : RowKit.Below w2.heap.size w2 W) k (hk : k < L.length) => own_bin (HN.out ▸ own_below HO2.out hb) (k := k) hk)
          obtain ⟨r0, r1, r2⟩ := hOr.out _ hBe.out i (by rw [← HN.out]; exact hlt)
          have hmp := hMp.out.grown (World.grownBy_alloc wo (Obj.cells #[.int .i64 (nth L i).a, .int .i64 (nth L i).b, .int .i64 (nth L i).c] 23) none) (by simp)
          have hlk := hmp.look 67 4 Try.underlying67 (.bool false) (zero4 _) (nth L i)
          unfold aggB at hlk
          have HMP := Lib.hid hmp
          clear hmp
          by_cases hmem : nth L i ∈ (outTo d S L i).flatten
          · have hsv : (seenV (outTo d S L i).flatten (nth L i)).getD (.bool false) = .bool true := by simp [seenV, hmem]
            rw [hsv] at hlk
            have HMM := Lib.hid hmem
            clear hmem hsv
            go_wp2
            go_roundw
            case rel => exact ⟨i + 1, no, Ao, co, rfl, by simp, by omega, by omega, by show _ = _; rw [outTo_mem i HMM.out]; exact hnl.out, by show OwnLL _ _ _ _; rw [outTo_mem i HMM.out]; exact hLL.out.below ((Below.refl _ _).alloc (Nat.le_refl _) _), by show MapV _ _ _; rw [outTo_mem i HMM.out]; exact HMP.out, hBe.out.alloc (by have := hBe.out.size; omega) _, by simp; omega⟩
            case measure => simp [intOf]; omega
          · have hsv : (seenV (outTo d S L i).flatten (nth L i)).getD (.bool false) = .bool false := by simp [seenV, hmem]
            rw [hsv] at hlk
            have HMM := Lib.hid hmem
            clear hmem hsv
            obtain ⟨F, hFi, hF0, hFs, hFd, hFl⟩ : ∃ F : Nat → Bin, (∀ k, F k = It d S k (nth L i)) ∧ F 0 = nth L i ∧ (∀ k, F (k + 1) = nxt d S (F k)) ∧ (∀ k, Within 1073741824 (F k) ∧ (F k).disc = d) ∧ (∀ N, cyc d S N (nth L i) = (List.range N).map F) :=
              ⟨fun k => It d S k (nth L i), fun k => rfl, rfl, fun k => It_succ' d S k _, fun k => ⟨within_red HC.out (by omega) (It_disc HC.out k (HM.out i hlt).1) (It_red HC.out k (HM.out i hlt).1 (HM.out i hlt).2), It_disc HC.out k (HM.out i hlt).1⟩, fun N => rfl⟩
            have hper := per_spec HC.out hs (HM.out i hlt).1 (HM.out i hlt).2
            have hPl := hFl (per d S (nth L i))
            have hPn : F (per d S (nth L i)) = F 0 := by rw [hF0, hFi]; exact hper.2.2.1
            have hPk : ∀ k, 0 < k → k < per d S (nth L i) → F k ≠ F 0 := fun k h1 h2 => by rw [hF0, hFi]; exact hper.2.2.2 k h1 h2
            obtain ⟨hp0, hp1, hprest⟩ := hper
            clear hprest
            have HcyE : Hid (cy d S (nth L i) = (List.range (per d S (nth L i))).map F) := by show _ = _; exact hPl
            generalize per d S (nth L i) = N at *
            rw [← hF0] at r0 r1 r2 hlk HMP
            have hrc := fun W => round_closes F d S N W hFs hFd HC.out (by omega) hp0 hp1 hPn hPk
            obtain ⟨T, hT⟩ : ∃ T, T = (outTo d S L i).flatten := ⟨_, rfl⟩
            have HT := Lib.hid hT
            have HF0 := Lib.hid hF0
            clear hT hF0 hFi hFs hFd hFl hPl hPn hPk
            rw [← HT.out] at HMP
            obtain ⟨vs, l1, l2, l3⟩ := hLL.out
            have hvl := own_len l1
            have lH := Lib.hid (And.intro l1 (And.intro l2 l3))
            clear l1 l2 l3 hLL
            go_wp2_with (go_at_call 50; refine (hrc _).mono ?_; rintro e w5 ⟨v5, rfl, hO5, hB5⟩; obtain ⟨A5, c5, rfl⟩ := own_slice hO5)
            have hs5 := hB5.size
            have G5 := Lib.hid (grow_own (World.grownBy_alloc wo (Obj.cells #[.int .i64 (F 0).a, .int .i64 (F 0).b, .int .i64 (F 0).c] 23) (some w2.heap.size)) (grow_below hB5 none) (by intro k hk; cases hk))
            have M5 := Lib.hid (HMP.out.grown (grow_below hB5 none) (by simp))
            have O5 := Lib.hid (own_base hO5 (show wo.heap.size ≤ _ by simp))
            clear hB5 hO5 hrc hlk r0 r1 r2
            rw [World.size_alloc] at hs5
            obtain ⟨g5, hA5, hg5, hg5'⟩ := own_at O5.out hp0
            subst hA5
            go_loopw [100] (fun u wm => ∃ (t : Nat), u = .int .i64 t ∧ t ≤ N ∧ Hid (MapV wm w2.heap.size (seenV (T ++ (List.range t).map F))) ∧ Hid (w5.grownBy wm (some w2.heap.size))) (fun u _ => (N - intOf u).toNat)
            case atStart => exact ⟨0, rfl, by omega, M5.out.congr (fun f => by simp), World.grownBy.refl _ _⟩
            case round =>
              obtain ⟨t, rfl, htN, hMt, hGt⟩ := hrel
              rename World => wm
              by_cases htl : t < N
              · have hlF : ((List.range N).map F).length = N := by simp
                have h0 := own_grown O5.out hGt.out (by intro k hk; cases hk; omega)
                obtain ⟨t0, t1, t2⟩ := own_binN hlF h0 htl
                rw [nth_range F htl] at t0 t1 t2
                clear hlF
                go_wp2_with (at_mapUpdate
                             refine wpList_put23 _ rfl _ _ _ 67 rfl 4 Try.underlying67 w2.heap.size _ rfl (hMt.out.grown (World.grownBy_alloc wm _ none) (by simp)) (F t) rfl (.bool true) rfl ?_
                             intro w6 hM6 hG6)
                go_roundw
                case rel =>
                  exact ⟨t + 1, by simp, by omega, hM6.congr (fun f => by rw [seenV_snoc, List.append_assoc, List.range_succ, List.map_append]; rfl), grow_same (grow_own hGt.out (World.grownBy_alloc wm _ none) (by intro k hk; cases hk)) hG6⟩
                case measure => simp [intOf]; omega
              · have htE : t = N := by omega
                obtain ⟨l1, l2, l3⟩ := lH.out
                have Gm := Lib.hid (grow_same G5.out hGt.out)
                have m1 := own_grown l1 Gm.out (by intro k hk; cases hk; exact Nat.lt_succ_self _)
                have m2 := fun (i' : Nat) (u : Value) (l : List Bin) (hu : vs[i']? = some u) (hl : (outTo d S L i)[i']? = some l) => own_grown (l2 i' u l hu hl) Gm.out (by intro k hk; cases hk; exact Nat.lt_succ_self _)
                have m3 := own_grown O5.out hGt.out (by intro k hk; cases hk; omega)
                have m4 : ∀ (i' : Nat) (u' : Value) (b : Nat), vs[i']? = some u' → u'.ownBlock = some b → (Value.slice (some ⟨g5, 0, none⟩) N c5).ownBlock ≠ some b := by
                  intro i' u' b hu hb hc
                  have hi' : i' < (outTo d S L i).length := by
                    have := (List.getElem?_eq_some_iff.1 hu).1
                    rw [hvl] at this; omega
                  have h1 := (l2 i' u' _ hu (List.getElem?_eq_getElem hi')).lt b hb
                  simp only [Value.ownBlock, Option.some.injEq] at hc
                  omega
                have MH := Lib.hid (And.intro m1 (And.intro m2 (And.intro l3 (And.intro m3 m4))))
                have m1n : wm.ownsRow (w2.heap.size + 1) 32 1 (.slice Ao no co) no vs := by have h := m1; rw [← hnl.out] at h; exact h
                have M1N := Lib.hid m1n
                clear l1 l2 l3 m1 m2 m3 m4 m1n
                have hSm : wo.heap.size ≤ wm.heap.size := Gm.out.size
                go_wp2_with (at_builtin
                             refine wpList_append_own _ rfl _ _ 27 rfl (w2.heap.size + 1) 32 i2 (.slice none 0 0) 1 24 Try.underlying27 hi2 hy0 hy1 hy2 rfl (by decide) (.slice Ao no co) _ _ rfl (M1N.out.alloc _) ⟨_, 0, none⟩ 1 1 [.slice (some ⟨g5, 0, none⟩) N c5] rfl rfl (one_at _ _ _) (by intro u hu; simp at hu; subst hu; rfl) (by unfold maxLen; omega) (by omega) (by simp; omega) ?_
                             intro v1 w7 hown1 hgrow1 _
                             obtain ⟨A1, c1, rfl⟩ := own_slice hown1)
                go_roundw
                case rel =>
                  obtain ⟨m1, m2, l3, m3, m4⟩ := MH.out
                  have e1 : outTo d S L (i + 1) = outTo d S L i ++ [(List.range N).map F] := by rw [outTo_new i HMM.out, HcyE.out]
                  have k4 : wm.ownsRow (w2.heap.size + 1) 23 3 (.slice (some ⟨g5, 0, none⟩) N c5) ((List.range N).map F).length (rowOf ((List.range N).map F)) := by
                    rw [List.length_map, List.length_range]
                    exact own_base m3 (by omega)
                  have hown2 : w7.ownsRow (w2.heap.size + 1) 32 1 (.slice A1 (no + 1) c1) ((outTo d S L i).length + 1) (vs ++ [.slice (some ⟨g5, 0, none⟩) N c5]) := by rw [← hnl.out]; exact hown1
                  have k1 : wm.ownsRow (w2.heap.size + 1) 32 1 (.slice Ao no co) (outTo d S L i).length vs := m1
                  have hfin := OwnLL.snoc k1 m2 l3 k4 m4 hgrow1 hown2
                  have hmap := (hMt.out.grown (World.grownBy_alloc wm (Obj.cells #[.slice (some ⟨g5, 0, none⟩) N c5] 32) none) (by simp)).grown hgrow1 (own_ne k1 (Nat.lt_succ_self _))
                  have hB7 := below_grownby (below_grownby (below_grownby hBe.out Gm.out (by omega) (by intro k hk; cases hk; exact Nat.le_refl _)) (World.grownBy_alloc wm (Obj.cells #[.slice (some ⟨g5, 0, none⟩) N c5] 32) none) (by have := Gm.out.size; omega) (by intro k hk; cases hk)) hgrow1 (by have := Gm.out.size; simp; omega) (fun k hk => by have := (k1.lt k hk).1; omega)
                  have hS7 := hgrow1.size
                  rw [World.size_alloc] at hS7
                  exact ⟨i + 1, no + 1, A1, c1, rfl, by simp, by omega, by omega, by show _ = _; rw [e1, List.length_append, ← hnl.out]; rfl, by show OwnLL _ _ _ _; rw [e1]; exact hfin, hmap.congr (fun f => by rw [e1, List.flatten_append, ← HT.out, List.flatten_cons, List.flatten_nil, List.append_nil, htE]), hB7, by omega⟩
                case measure => simp [intOf]; omega
        · have hie : i = n := by omega
          go_wp2
          refine bodyPost_ret (v := .tuple #[.slice Ao no co, .int .i64 0]) (by simp [results, Try.results12, go_sem]) rfl ⟨_, rfl, ?_, HB2.out.trans (below_weak hBe.out (HB2.out.size))⟩
          have := hLL.out.base (base' := w.heap.size) (by have := HB2.out.size; omega)
          rw [HL.out, ← HN.out, ← hie]
          exact this

end Go.Proofs.Ytljhbjkdifmonaa
