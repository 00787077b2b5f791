import Derived.Test.YtljhbjkdifmonaaG2
import Derived.Test.YtljhbjkdifmonaaWLast
import Derived.WalkMore
import Derived.ScopeJumps
import Derived.Test.YtljhbjkdifmonaaG1
import Derived.BigRegion
namespace Go.Proofs.Ytljhbjkdifmonaa
open Go.RowKit Pq Go.Proofs.YtljhbjkdifmonaaW.PrintLast

theorem reduce_bad (f : Bin) (w : World) (h : chk f ≠ 0) :
    Calls Try.prog 17 #[.agg #[.int .i64 f.a, .int .i64 f.b, .int .i64 f.c]] w fun e w' => e = .returned (.tuple #[.agg #[.int .i64 0, .int .i64 0, .int .i64 0], .agg #[.int .i64 0, .int .i64 0, .int .i64 0, .int .i64 0], .int .i64 (chk f)]) ∧ Below w.heap.size w w' := by
  have hk := fun W => check_any f W
  have hbb : (chk f != 0) = true := by simpa using h
  generalize chk f = r at *
  obtain ⟨a, b, c⟩ := f
  simp only at hk ⊢
  go_enter Try.func17, Try.ntmps17
  go_wp2_with (go_at_call 19; refine (hk _).mono ?_; rintro e w' ⟨rfl, hb⟩; obtain ⟨hc, hf⟩ := bcell hb)
  refine bodyPost_ret (v := .tuple #[.agg #[.int .i64 0, .int .i64 0, .int .i64 0], .agg #[.int .i64 0, .int .i64 0, .int .i64 0, .int .i64 0], .int .i64 r]) (by simp [results, Try.results17, go_sem, hc]) rfl ⟨rfl, ?_⟩
  repeat refine Below.setCell ?_ (by simp <;> omega) _
  exact ((((Below.refl _ _).alloc (Nat.le_refl _) _).alloc (by simp) _).alloc (by simp; omega) _).trans (hb.mono (by simp; omega))

/-- A turn. -/
structure Trn where
  p : Int
  q : Int
  r : Int
  s : Int
  deriving DecidableEq

/-- A turn behind the turn 0 -1; 1 n, as the code reckons it. -/
def tstep (t : Trn) (n : Int) : Trn := ⟨wrap64 (wrap64 0 + wrap64 t.q), wrap64 (wrap64 (-t.p) + wrap64 (t.q * n)), wrap64 (wrap64 0 + wrap64 t.s), wrap64 (wrap64 (-t.r) + wrap64 (t.s * n))⟩
def TIt (d s : Int) (f : Bin) : Nat → Trn
  | 0 => ⟨1, 0, 0, 1⟩
  | k + 1 => tstep (TIt d s f k) (turnN s (It d s k f))

set_option maxRecDepth 100000 in
set_option maxHeartbeats 4000000 in
theorem reduce_ok (f : Bin) (n : Nat) (w : World) (s : Int) (h : chk f = 0) (hs : s = rt f.disc) (h1 : Red s (It f.disc s n f)) (h2 : ∀ k, k < n → ¬ Red s (It f.disc s k f)) :
    Calls Try.prog 17 #[.agg #[.int .i64 f.a, .int .i64 f.b, .int .i64 f.c]] w fun e w' => e = .returned (.tuple #[.agg #[.int .i64 (It f.disc s n f).a, .int .i64 (It f.disc s n f).b, .int .i64 (It f.disc s n f).c], .agg #[.int .i64 (TIt f.disc s f n).p, .int .i64 (TIt f.disc s f n).q, .int .i64 (TIt f.disc s f n).r, .int .i64 (TIt f.disc s f n).s], .int .i64 0]) ∧ Below w.heap.size w w' := by
  have hk := fun W => check_any f W
  rw [h] at hk
  obtain ⟨hw, hx⟩ := chk_zero h
  obtain ⟨hcr, hlt, _⟩ := crossB_true hx
  rw [← hs] at hcr
  have hdisc := fun W => discf_any f W hw
  have HD := Lib.hid (show f.disc = f.disc from rfl)
  have hIt : ∀ k, Within 1073741824 (It f.disc s k f) ∧ (It f.disc s k f).disc = f.disc := fun k => ⟨It_within hcr (lt_of_mul_self_lt (by omega) (by have := hcr.lt; omega)) k rfl hw, It_disc hcr k rfl⟩
  have hroot := fun W => root_any f.disc s W (by have := hcr.pos; omega) (by omega) hcr.root
  have H0 := Lib.hid (show It f.disc s 0 f = f from rfl)
  have HS := Lib.hid (fun k => It_succ' f.disc s k f)
  have T0 := Lib.hid (show TIt f.disc s f 0 = ⟨1, 0, 0, 1⟩ from rfl)
  have TS := Lib.hid (show ∀ k, TIt f.disc s f (k + 1) = tstep (TIt f.disc s f k) (turnN s (It f.disc s k f)) from fun _ => rfl)
  have HI := Lib.hid hIt
  have HC := Lib.hid hcr
  have HL := Lib.hid hlt
  have H2 := Lib.hid h2
  have H1 := Lib.hid h1
  clear h2 h1 hIt hcr hx h hs HD hlt hw
  generalize f.disc = d at *
  generalize TIt d s f = T at *
  generalize hF : (fun k => It d s k f) = F at *
  have eF : ∀ k, It d s k f = F k := fun k => by rw [← hF]
  simp only [Hid, eF] at HI HS H0 H1 H2 TS
  simp only [eF]
  have KI := Lib.hid HI
  have KS := Lib.hid HS
  have K0 := Lib.hid H0
  have KT := Lib.hid TS
  have K1 := Lib.hid H1
  have K2 := Lib.hid H2
  clear eF hF HI HS H0 H1 H2 TS
  obtain ⟨a, b, c⟩ := f
  simp only at hk hdisc ⊢
  go_enter Try.func17, Try.ntmps17
  go_wp2_with (first
    | (go_at_call 19; refine (hk _).mono ?_; rintro e w1 ⟨rfl, hb1⟩; obtain ⟨hc1, hf1⟩ := bcell hb1)
    | (go_at_call 57; refine (hdisc _).mono ?_; rintro e w2 ⟨rfl, hb2⟩; obtain ⟨hc2, hf2⟩ := bcell hb2)
    | (go_at_call 45; refine (hroot _).mono ?_; rintro e w3 ⟨rfl, rfl⟩))
  have n1 := Blk.new w 23 #[Value.int IntKind.i64 a, Value.int IntKind.i64 b, Value.int IntKind.i64 c]
  have n2 := Blk.new2 w (Obj.cells #[Value.int IntKind.i64 a, Value.int IntKind.i64 b, Value.int IntKind.i64 c] 23) 23 #[Value.int IntKind.i64 0, Value.int IntKind.i64 0, Value.int IntKind.i64 0]
  have n3 := Blk.new2 (w.alloc (Obj.cells #[Value.int IntKind.i64 a, Value.int IntKind.i64 b, Value.int IntKind.i64 c] 23)) (Obj.cells #[Value.int IntKind.i64 0, Value.int IntKind.i64 0, Value.int IntKind.i64 0] 23) 35 #[Value.int IntKind.i64 0, Value.int IntKind.i64 0, Value.int IntKind.i64 0, Value.int IntKind.i64 0]
  have z1 := ((((n1.alloc (Obj.cells #[Value.int IntKind.i64 0, Value.int IntKind.i64 0, Value.int IntKind.i64 0] 23)).alloc (Obj.cells #[Value.int IntKind.i64 0, Value.int IntKind.i64 0, Value.int IntKind.i64 0, Value.int IntKind.i64 0] 35)).below' hb1).below' hb2).alloc (Obj.cells #[Value.int IntKind.i64 1, Value.int IntKind.i64 0, Value.int IntKind.i64 0, Value.int IntKind.i64 1] 35)
  have z2 := (((n2.alloc (Obj.cells #[Value.int IntKind.i64 0, Value.int IntKind.i64 0, Value.int IntKind.i64 0, Value.int IntKind.i64 0] 35)).below' hb1).below' hb2).alloc (Obj.cells #[Value.int IntKind.i64 1, Value.int IntKind.i64 0, Value.int IntKind.i64 0, Value.int IntKind.i64 1] 35)
  have z3 := ((n3.below' hb1).below' hb2).alloc (Obj.cells #[Value.int IntKind.i64 1, Value.int IntKind.i64 0, Value.int IntKind.i64 0, Value.int IntKind.i64 1] 35)
  have z4 := Blk.new w2 35 #[Value.int IntKind.i64 1, Value.int IntKind.i64 0, Value.int IntKind.i64 0, Value.int IntKind.i64 1]
  have LT : Hid (w.heap.size + 1 + 1 < w2.heap.size) := by
    have h1 := hb1.size; have h2 := hb2.size
    simp at h1
    show _ < _; omega
  have HB0 : Hid (Below w.heap.size w (w2.alloc (Obj.cells #[Value.int IntKind.i64 1, Value.int IntKind.i64 0, Value.int IntKind.i64 0, Value.int IntKind.i64 1] 35))) :=
    ((((((Below.refl _ _).alloc (Nat.le_refl _) _).alloc (by simp) _).alloc (by simp; omega) _).trans (hb1.mono (by simp; omega))).trans (hb2.mono (by have := hb1.size; simp at this; omega))).alloc (by have := LT.out; omega) _
  have Z := Lib.hid (And.intro z1 (And.intro z2 (And.intro z3 z4)))
  clear n1 n2 n3 z1 z2 z3 z4
  go_loopg [23] n (fun k _ wr => ∃ (j : Nat) (t : Trn), Hid (t = T j) ∧ j + k = n ∧ Blk wr w.heap.size 23 #[.int .i64 (F j).a, .int .i64 (F j).b, .int .i64 (F j).c] ∧ Blk wr (w.heap.size + 1) 23 #[.int .i64 0, .int .i64 0, .int .i64 0] ∧
    Blk wr (w.heap.size + 1 + 1) 35 #[.int .i64 0, .int .i64 0, .int .i64 0, .int .i64 0] ∧ Blk wr w2.heap.size 35 #[.int .i64 t.p, .int .i64 t.q, .int .i64 t.r, .int .i64 t.s] ∧ Below w.heap.size w wr)
  case atStart =>
    obtain ⟨z1, z2, z3, z4⟩ := Z.out
    simp only [World.size_alloc] at z3
    exact ⟨0, ⟨1, 0, 0, 1⟩, T0.out.symm, by omega, by rw [K0.out]; exact z1, z2, z3, z4, HB0⟩
  case round =>
    obtain ⟨j, t, ht, hj, k1, k2, k3, k4, hb⟩ := hrel
    obtain ⟨c10, c11, c12⟩ := k1.c3
    have f1 := fun i => k1.frozen i
    obtain ⟨c40, c41, c42, c43⟩ := k4.c4
    have f4 := fun i => k4.frozen i
    have l1 := k1.lt
    have l4 := k4.lt
    have K := Lib.hid (And.intro k1 (And.intro k2 (And.intro k3 k4)))
    clear k1 k2 k3 k4 hc1 hf1 hc2 hf2 hk hdisc hroot
    have hIj := KI.out j
    have hred := fun W => red_any (F j) s W hIj.1
    by_cases hlt : j < n
    · rw [decide_eq_false (K2.out j hlt)] at hred
      have hnext := fun W => next_any (F j) d s W hIj.1 HC.out HL.out hIj.2
      rw [← KS.out j] at hnext
      clear hIj
      generalize htn : turnN s (F j) = tn at *
      have HTN := Lib.hid htn
      clear htn
      go_wp2_with (first
        | (go_at_call 46; refine (hred _).mono ?_; rintro e w4 ⟨rfl, hb4⟩; obtain ⟨hc4, hf4⟩ := bcell hb4)
        | (go_at_call 58; refine (hnext _).mono ?_; rintro e w5 ⟨rfl, hb5⟩; obtain ⟨hc5, hf5⟩ := bcell hb5))
      obtain ⟨k1, k2, k3, k4⟩ := K.out
      have m1 := (((k1.below' hb4).below' hb5).alloc (Obj.cells #[Value.int IntKind.i64 (F (j + 1)).a, Value.int IntKind.i64 (F (j + 1)).b, Value.int IntKind.i64 (F (j + 1)).c] 23)).alloc (Obj.cells #[Value.int IntKind.i64 0, Value.int IntKind.i64 (-1), Value.int IntKind.i64 1, Value.int IntKind.i64 tn] 35)
      have m2 := (((k2.below' hb4).below' hb5).alloc (Obj.cells #[Value.int IntKind.i64 (F (j + 1)).a, Value.int IntKind.i64 (F (j + 1)).b, Value.int IntKind.i64 (F (j + 1)).c] 23)).alloc (Obj.cells #[Value.int IntKind.i64 0, Value.int IntKind.i64 (-1), Value.int IntKind.i64 1, Value.int IntKind.i64 tn] 35)
      have m3 := (((k3.below' hb4).below' hb5).alloc (Obj.cells #[Value.int IntKind.i64 (F (j + 1)).a, Value.int IntKind.i64 (F (j + 1)).b, Value.int IntKind.i64 (F (j + 1)).c] 23)).alloc (Obj.cells #[Value.int IntKind.i64 0, Value.int IntKind.i64 (-1), Value.int IntKind.i64 1, Value.int IntKind.i64 tn] 35)
      have m4 := (((k4.below' hb4).below' hb5).alloc (Obj.cells #[Value.int IntKind.i64 (F (j + 1)).a, Value.int IntKind.i64 (F (j + 1)).b, Value.int IntKind.i64 (F (j + 1)).c] 23)).alloc (Obj.cells #[Value.int IntKind.i64 0, Value.int IntKind.i64 (-1), Value.int IntKind.i64 1, Value.int IntKind.i64 tn] 35)
      have m5 := (Blk.new w5 23 #[Value.int IntKind.i64 (F (j + 1)).a, Value.int IntKind.i64 (F (j + 1)).b, Value.int IntKind.i64 (F (j + 1)).c]).alloc (Obj.cells #[Value.int IntKind.i64 0, Value.int IntKind.i64 (-1), Value.int IntKind.i64 1, Value.int IntKind.i64 tn] 35)
      have m6 := Blk.new2 w5 (Obj.cells #[Value.int IntKind.i64 (F (j + 1)).a, Value.int IntKind.i64 (F (j + 1)).b, Value.int IntKind.i64 (F (j + 1)).c] 23) 35 #[Value.int IntKind.i64 0, Value.int IntKind.i64 (-1), Value.int IntKind.i64 1, Value.int IntKind.i64 tn]
      have mb : Below w.heap.size w ((w5.alloc (Obj.cells #[Value.int IntKind.i64 (F (j + 1)).a, Value.int IntKind.i64 (F (j + 1)).b, Value.int IntKind.i64 (F (j + 1)).c] 23)).alloc (Obj.cells #[Value.int IntKind.i64 0, Value.int IntKind.i64 (-1), Value.int IntKind.i64 1, Value.int IntKind.i64 tn] 35)) :=
        (((hb.trans (hb4.mono hb.size)).trans (hb5.mono (Nat.le_trans hb.size hb4.size))).alloc (Nat.le_trans hb.size (Nat.le_trans hb4.size hb5.size)) _).alloc (by have := Nat.le_trans hb.size (Nat.le_trans hb4.size hb5.size); simp; omega) _
      generalize (w5.alloc (Obj.cells #[Value.int IntKind.i64 (F (j + 1)).a, Value.int IntKind.i64 (F (j + 1)).b, Value.int IntKind.i64 (F (j + 1)).c] 23)).alloc (Obj.cells #[Value.int IntKind.i64 0, Value.int IntKind.i64 (-1), Value.int IntKind.i64 1, Value.int IntKind.i64 tn] 35) = W9 at *
      have ltg : w.heap.size < w5.heap.size := by have := hb4.size; have := hb5.size; omega
      have lt18 : w.heap.size + 1 + 1 < w2.heap.size := LT.out
      have lt8 : w2.heap.size < w5.heap.size := by have := hb4.size; have := hb5.size; omega
      clear c10 c11 c12 c40 c41 c42 c43 f1 f4 hc4 hf4 hc5 hf5 hb4 hb5 k1 k2 k3 k4 K
      obtain ⟨d10, d11, d12⟩ := m1.c3
      have e1 := fun i => m1.frozen i
      obtain ⟨d40, d41, d42, d43⟩ := m4.c4
      have e4 := fun i => m4.frozen i
      obtain ⟨d50, d51, d52⟩ := m5.c3
      obtain ⟨d60, d61, d62, d63⟩ := m6.c4
      have M := Lib.hid (And.intro m1 (And.intro m2 (And.intro m3 m4)))
      have MB := Lib.hid mb
      have MJ := Lib.hid hj
      clear m1 m2 m3 m4 m5 m6 mb hb hj HB0 hb1 hb2 hnext hred
      have n81 : w2.heap.size ≠ w.heap.size := by omega
      have n51 : w5.heap.size ≠ w.heap.size := by omega
      have n61 : w5.heap.size + 1 ≠ w.heap.size := by omega
      have n85 : w2.heap.size ≠ w5.heap.size := by omega
      have n86 : w2.heap.size ≠ w5.heap.size + 1 := by omega
      generalize w5.heap.size = G at *
      generalize w2.heap.size = B8 at *
      generalize hga : (F (j + 1)).a = ga at *
      generalize hgb : (F (j + 1)).b = gb at *
      generalize hgc : (F (j + 1)).c = gc at *
      have HGA := Lib.hid (And.intro hga (And.intro hgb hgc))
      clear hga hgb hgc
      refine start_ (n := 48) (S := fun w' => w'.cell? ⟨B8, 0, none⟩ = some (.int .i64 t.p) ∧ w'.cell? ⟨B8, 1, none⟩ = some (.int .i64 t.q) ∧ w'.cell? ⟨B8, 2, none⟩ = some (.int .i64 t.r) ∧ w'.cell? ⟨B8, 3, none⟩ = some (.int .i64 t.s) ∧ w'.cell? ⟨G, 0, none⟩ = some (.int .i64 ga) ∧ w'.cell? ⟨G, 1, none⟩ = some (.int .i64 gb) ∧ w'.cell? ⟨G, 2, none⟩ = some (.int .i64 gc) ∧ w'.cell? ⟨G + 1, 0, none⟩ = some (.int .i64 0) ∧ w'.cell? ⟨G + 1, 1, none⟩ = some (.int .i64 (-1)) ∧ w'.cell? ⟨G + 1, 2, none⟩ = some (.int .i64 1) ∧ w'.cell? ⟨G + 1, 3, none⟩ = some (.int .i64 tn)) (ds := [47]) #[false, false, false, false, false, false, false, false, false, false, false, false, false, false, false, false, false, false, false, false, false, false, false, false, false, false, false, false, false, false, false, false, false, false, false, false, false, false, false, false, false, false, false, false, false, false, false, false] (by kernel_rfl) rfl rfl ⟨d40, d41, d42, d43, d50, d51, d52, d60, d61, d62, d63⟩ (fun hHeld => ?_)
      refine take_ (i := 0) (N := some 34) (v := ?_) (a' := ?_) #[true, false, false, false, false, false, false, false, false, false, false, false, false, false, false, false, false, false, false, false, false, false, false, false, false, false, false, false, false, false, false, false, false, false, false, false, false, false, false, false, false, false, false, false, false, false, false, false] rfl rfl (by kernel_rfl) (fun _ _ _ h => h) (Or.inl ⟨by rfl, ?_⟩) hHeld ?_ ?_
      rotate_left
      · rintro w' ⟨s0, s1, s2, s3, s4, s5, s6, s7, s8, s9, s10⟩
        go_simp
        with_reducible rfl
      rotate_left
      · simp only [Act.put, List.setIfInBounds_toArray, List.set_cons_zero, List.set_cons_succ, i64_w, i32_w]
        rfl
      refine pure_ (i := 1) (N := some 35) (v := ?_) (a' := ?_) #[true, true, false, false, false, false, false, false, false, false, false, false, false, false, false, false, false, false, false, false, false, false, false, false, false, false, false, false, false, false, false, false, false, false, false, false, false, false, false, false, false, false, false, false, false, false, false, false] rfl rfl (by kernel_rfl) (fun _ _ _ h => h) (Or.inl ⟨by rfl, ?_⟩) ?_ ?_
      rotate_left
      · intro w'
        go_simp
        with_reducible rfl
      rotate_left
      · simp only [Act.put, List.setIfInBounds_toArray, List.set_cons_zero, List.set_cons_succ, i64_w, i32_w]
        rfl
      refine take_ (i := 2) (N := some 36) (v := ?_) (a' := ?_) #[true, true, true, false, false, false, false, false, false, false, false, false, false, false, false, false, false, false, false, false, false, false, false, false, false, false, false, false, false, false, false, false, false, false, false, false, false, false, false, false, false, false, false, false, false, false, false, false] rfl rfl (by kernel_rfl) (fun _ _ _ h => h) (Or.inl ⟨by rfl, ?_⟩) hHeld ?_ ?_
      rotate_left
      · rintro w' ⟨s0, s1, s2, s3, s4, s5, s6, s7, s8, s9, s10⟩
        go_simp
        with_reducible rfl
      rotate_left
      · simp only [Act.put, List.setIfInBounds_toArray, List.set_cons_zero, List.set_cons_succ, i64_w, i32_w]
        rfl
      refine pure_ (i := 3) (N := some 37) (v := ?_) (a' := ?_) #[true, true, true, true, false, false, false, false, false, false, false, false, false, false, false, false, false, false, false, false, false, false, false, false, false, false, false, false, false, false, false, false, false, false, false, false, false, false, false, false, false, false, false, false, false, false, false, false] rfl rfl (by kernel_rfl) (fun _ _ _ h => h) (Or.inl ⟨by rfl, ?_⟩) ?_ ?_
      rotate_left
      · intro w'
        go_simp
        with_reducible rfl
      rotate_left
      · simp only [Act.put, List.setIfInBounds_toArray, List.set_cons_zero, List.set_cons_succ, i64_w, i32_w]
        rfl
      refine take_ (i := 4) (N := some 38) (v := ?_) (a' := ?_) #[true, true, true, true, true, false, false, false, false, false, false, false, false, false, false, false, false, false, false, false, false, false, false, false, false, false, false, false, false, false, false, false, false, false, false, false, false, false, false, false, false, false, false, false, false, false, false, false] rfl rfl (by kernel_rfl) (fun _ _ _ h => h) (Or.inl ⟨by rfl, ?_⟩) hHeld ?_ ?_
      rotate_left
      · rintro w' ⟨s0, s1, s2, s3, s4, s5, s6, s7, s8, s9, s10⟩
        go_simp
        with_reducible rfl
      rotate_left
      · simp only [Act.put, List.setIfInBounds_toArray, List.set_cons_zero, List.set_cons_succ, i64_w, i32_w]
        rfl
      refine pure_ (i := 5) (N := some 39) (v := ?_) (a' := ?_) #[true, true, true, true, true, true, false, false, false, false, false, false, false, false, false, false, false, false, false, false, false, false, false, false, false, false, false, false, false, false, false, false, false, false, false, false, false, false, false, false, false, false, false, false, false, false, false, false] rfl rfl (by kernel_rfl) (fun _ _ _ h => h) (Or.inl ⟨by rfl, ?_⟩) ?_ ?_
      rotate_left
      · intro w'
        go_simp
        with_reducible rfl
      rotate_left
      · simp only [Act.put, List.setIfInBounds_toArray, List.set_cons_zero, List.set_cons_succ, i64_w, i32_w]
        rfl
      refine pure_ (i := 6) (N := some 40) (v := ?_) (a' := ?_) #[true, true, true, true, true, true, true, false, false, false, false, false, false, false, false, false, false, false, false, false, false, false, false, false, false, false, false, false, false, false, false, false, false, false, false, false, false, false, false, false, false, false, false, false, false, false, false, false] rfl rfl (by kernel_rfl) (fun _ _ _ h => h) (Or.inl ⟨by rfl, ?_⟩) ?_ ?_
      rotate_left
      · intro w'
        go_simp
        with_reducible rfl
      rotate_left
      · simp only [Act.put, List.setIfInBounds_toArray, List.set_cons_zero, List.set_cons_succ, i64_w, i32_w]
        rfl
      refine take_ (i := 7) (N := some 41) (v := ?_) (a' := ?_) #[true, true, true, true, true, true, true, true, false, false, false, false, false, false, false, false, false, false, false, false, false, false, false, false, false, false, false, false, false, false, false, false, false, false, false, false, false, false, false, false, false, false, false, false, false, false, false, false] rfl rfl (by kernel_rfl) (fun _ _ _ h => h) (Or.inl ⟨by rfl, ?_⟩) hHeld ?_ ?_
      rotate_left
      · rintro w' ⟨s0, s1, s2, s3, s4, s5, s6, s7, s8, s9, s10⟩
        go_simp
        with_reducible rfl
      rotate_left
      · simp only [Act.put, List.setIfInBounds_toArray, List.set_cons_zero, List.set_cons_succ, i64_w, i32_w]
        rfl
      refine pure_ (i := 8) (N := some 42) (v := ?_) (a' := ?_) #[true, true, true, true, true, true, true, true, true, false, false, false, false, false, false, false, false, false, false, false, false, false, false, false, false, false, false, false, false, false, false, false, false, false, false, false, false, false, false, false, false, false, false, false, false, false, false, false] rfl rfl (by kernel_rfl) (fun _ _ _ h => h) (Or.inl ⟨by rfl, ?_⟩) ?_ ?_
      rotate_left
      · intro w'
        go_simp
        with_reducible rfl
      rotate_left
      · simp only [Act.put, List.setIfInBounds_toArray, List.set_cons_zero, List.set_cons_succ, i64_w, i32_w]
        rfl
      refine take_ (i := 9) (N := some 43) (v := ?_) (a' := ?_) #[true, true, true, true, true, true, true, true, true, true, false, false, false, false, false, false, false, false, false, false, false, false, false, false, false, false, false, false, false, false, false, false, false, false, false, false, false, false, false, false, false, false, false, false, false, false, false, false] rfl rfl (by kernel_rfl) (fun _ _ _ h => h) (Or.inl ⟨by rfl, ?_⟩) hHeld ?_ ?_
      rotate_left
      · rintro w' ⟨s0, s1, s2, s3, s4, s5, s6, s7, s8, s9, s10⟩
        go_simp
        with_reducible rfl
      rotate_left
      · simp only [Act.put, List.setIfInBounds_toArray, List.set_cons_zero, List.set_cons_succ, i64_w, i32_w]
        rfl
      refine pure_ (i := 10) (N := some 44) (v := ?_) (a' := ?_) #[true, true, true, true, true, true, true, true, true, true, true, false, false, false, false, false, false, false, false, false, false, false, false, false, false, false, false, false, false, false, false, false, false, false, false, false, false, false, false, false, false, false, false, false, false, false, false, false] rfl rfl (by kernel_rfl) (fun _ _ _ h => h) (Or.inl ⟨by rfl, ?_⟩) ?_ ?_
      rotate_left
      · intro w'
        go_simp
        with_reducible rfl
      rotate_left
      · simp only [Act.put, List.setIfInBounds_toArray, List.set_cons_zero, List.set_cons_succ, i64_w, i32_w]
        rfl
      refine pure_ (i := 11) (N := some 45) (v := ?_) (a' := ?_) #[true, true, true, true, true, true, true, true, true, true, true, true, false, false, false, false, false, false, false, false, false, false, false, false, false, false, false, false, false, false, false, false, false, false, false, false, false, false, false, false, false, false, false, false, false, false, false, false] rfl rfl (by kernel_rfl) (fun _ _ _ h => h) (Or.inl ⟨by rfl, ?_⟩) ?_ ?_
      rotate_left
      · intro w'
        go_simp
        with_reducible rfl
      rotate_left
      · simp only [Act.put, List.setIfInBounds_toArray, List.set_cons_zero, List.set_cons_succ, i64_w, i32_w]
        rfl
      refine pure_ (i := 12) (N := some 46) (v := ?_) (a' := ?_) #[true, true, true, true, true, true, true, true, true, true, true, true, true, false, false, false, false, false, false, false, false, false, false, false, false, false, false, false, false, false, false, false, false, false, false, false, false, false, false, false, false, false, false, false, false, false, false, false] rfl rfl (by kernel_rfl) (fun _ _ _ h => h) (Or.inl ⟨by rfl, ?_⟩) ?_ ?_
      rotate_left
      · intro w'
        go_simp
        with_reducible rfl
      rotate_left
      · simp only [Act.put, List.setIfInBounds_toArray, List.set_cons_zero, List.set_cons_succ, i64_w, i32_w]
        rfl
      refine take_ (i := 13) (N := some 47) (v := ?_) (a' := ?_) #[true, true, true, true, true, true, true, true, true, true, true, true, true, true, false, false, false, false, false, false, false, false, false, false, false, false, false, false, false, false, false, false, false, false, false, false, false, false, false, false, false, false, false, false, false, false, false, false] rfl rfl (by kernel_rfl) (fun _ _ _ h => h) (Or.inl ⟨by rfl, ?_⟩) hHeld ?_ ?_
      rotate_left
      · rintro w' ⟨s0, s1, s2, s3, s4, s5, s6, s7, s8, s9, s10⟩
        go_simp
        with_reducible rfl
      rotate_left
      · simp only [Act.put, List.setIfInBounds_toArray, List.set_cons_zero, List.set_cons_succ, i64_w, i32_w]
        rfl
      refine pure_ (i := 14) (N := some 48) (v := ?_) (a' := ?_) #[true, true, true, true, true, true, true, true, true, true, true, true, true, true, true, false, false, false, false, false, false, false, false, false, false, false, false, false, false, false, false, false, false, false, false, false, false, false, false, false, false, false, false, false, false, false, false, false] rfl rfl (by kernel_rfl) (fun _ _ _ h => h) (Or.inl ⟨by rfl, ?_⟩) ?_ ?_
      rotate_left
      · intro w'
        go_simp
        with_reducible rfl
      rotate_left
      · simp only [Act.put, List.setIfInBounds_toArray, List.set_cons_zero, List.set_cons_succ, i64_w, i32_w]
        rfl
      refine take_ (i := 15) (N := some 49) (v := ?_) (a' := ?_) #[true, true, true, true, true, true, true, true, true, true, true, true, true, true, true, true, false, false, false, false, false, false, false, false, false, false, false, false, false, false, false, false, false, false, false, false, false, false, false, false, false, false, false, false, false, false, false, false] rfl rfl (by kernel_rfl) (fun _ _ _ h => h) (Or.inl ⟨by rfl, ?_⟩) hHeld ?_ ?_
      rotate_left
      · rintro w' ⟨s0, s1, s2, s3, s4, s5, s6, s7, s8, s9, s10⟩
        go_simp
        with_reducible rfl
      rotate_left
      · simp only [Act.put, List.setIfInBounds_toArray, List.set_cons_zero, List.set_cons_succ, i64_w, i32_w]
        rfl
      refine pure_ (i := 16) (N := some 50) (v := ?_) (a' := ?_) #[true, true, true, true, true, true, true, true, true, true, true, true, true, true, true, true, true, false, false, false, false, false, false, false, false, false, false, false, false, false, false, false, false, false, false, false, false, false, false, false, false, false, false, false, false, false, false, false] rfl rfl (by kernel_rfl) (fun _ _ _ h => h) (Or.inl ⟨by rfl, ?_⟩) ?_ ?_
      rotate_left
      · intro w'
        go_simp
        with_reducible rfl
      rotate_left
      · simp only [Act.put, List.setIfInBounds_toArray, List.set_cons_zero, List.set_cons_succ, i64_w, i32_w]
        rfl
      refine pure_ (i := 17) (N := some 51) (v := ?_) (a' := ?_) #[true, true, true, true, true, true, true, true, true, true, true, true, true, true, true, true, true, true, false, false, false, false, false, false, false, false, false, false, false, false, false, false, false, false, false, false, false, false, false, false, false, false, false, false, false, false, false, false] rfl rfl (by kernel_rfl) (fun _ _ _ h => h) (Or.inl ⟨by rfl, ?_⟩) ?_ ?_
      rotate_left
      · intro w'
        go_simp
        with_reducible rfl
      rotate_left
      · simp only [Act.put, List.setIfInBounds_toArray, List.set_cons_zero, List.set_cons_succ, i64_w, i32_w]
        rfl
      refine take_ (i := 18) (N := some 52) (v := ?_) (a' := ?_) #[true, true, true, true, true, true, true, true, true, true, true, true, true, true, true, true, true, true, true, false, false, false, false, false, false, false, false, false, false, false, false, false, false, false, false, false, false, false, false, false, false, false, false, false, false, false, false, false] rfl rfl (by kernel_rfl) (fun _ _ _ h => h) (Or.inl ⟨by rfl, ?_⟩) hHeld ?_ ?_
      rotate_left
      · rintro w' ⟨s0, s1, s2, s3, s4, s5, s6, s7, s8, s9, s10⟩
        go_simp
        with_reducible rfl
      rotate_left
      · simp only [Act.put, List.setIfInBounds_toArray, List.set_cons_zero, List.set_cons_succ, i64_w, i32_w]
        rfl
      refine pure_ (i := 19) (N := some 53) (v := ?_) (a' := ?_) #[true, true, true, true, true, true, true, true, true, true, true, true, true, true, true, true, true, true, true, true, false, false, false, false, false, false, false, false, false, false, false, false, false, false, false, false, false, false, false, false, false, false, false, false, false, false, false, false] rfl rfl (by kernel_rfl) (fun _ _ _ h => h) (Or.inl ⟨by rfl, ?_⟩) ?_ ?_
      rotate_left
      · intro w'
        go_simp
        with_reducible rfl
      rotate_left
      · simp only [Act.put, List.setIfInBounds_toArray, List.set_cons_zero, List.set_cons_succ, i64_w, i32_w]
        rfl
      refine take_ (i := 20) (N := some 54) (v := ?_) (a' := ?_) #[true, true, true, true, true, true, true, true, true, true, true, true, true, true, true, true, true, true, true, true, true, false, false, false, false, false, false, false, false, false, false, false, false, false, false, false, false, false, false, false, false, false, false, false, false, false, false, false] rfl rfl (by kernel_rfl) (fun _ _ _ h => h) (Or.inl ⟨by rfl, ?_⟩) hHeld ?_ ?_
      rotate_left
      · rintro w' ⟨s0, s1, s2, s3, s4, s5, s6, s7, s8, s9, s10⟩
        go_simp
        with_reducible rfl
      rotate_left
      · simp only [Act.put, List.setIfInBounds_toArray, List.set_cons_zero, List.set_cons_succ, i64_w, i32_w]
        rfl
      refine pure_ (i := 21) (N := some 55) (v := ?_) (a' := ?_) #[true, true, true, true, true, true, true, true, true, true, true, true, true, true, true, true, true, true, true, true, true, true, false, false, false, false, false, false, false, false, false, false, false, false, false, false, false, false, false, false, false, false, false, false, false, false, false, false] rfl rfl (by kernel_rfl) (fun _ _ _ h => h) (Or.inl ⟨by rfl, ?_⟩) ?_ ?_
      rotate_left
      · intro w'
        go_simp
        with_reducible rfl
      rotate_left
      · simp only [Act.put, List.setIfInBounds_toArray, List.set_cons_zero, List.set_cons_succ, i64_w, i32_w]
        rfl
      refine pure_ (i := 22) (N := some 56) (v := ?_) (a' := ?_) #[true, true, true, true, true, true, true, true, true, true, true, true, true, true, true, true, true, true, true, true, true, true, true, false, false, false, false, false, false, false, false, false, false, false, false, false, false, false, false, false, false, false, false, false, false, false, false, false] rfl rfl (by kernel_rfl) (fun _ _ _ h => h) (Or.inl ⟨by rfl, ?_⟩) ?_ ?_
      rotate_left
      · intro w'
        go_simp
        with_reducible rfl
      rotate_left
      · simp only [Act.put, List.setIfInBounds_toArray, List.set_cons_zero, List.set_cons_succ, i64_w, i32_w]
        rfl
      refine pure_ (i := 23) (N := some 57) (v := ?_) (a' := ?_) #[true, true, true, true, true, true, true, true, true, true, true, true, true, true, true, true, true, true, true, true, true, true, true, true, false, false, false, false, false, false, false, false, false, false, false, false, false, false, false, false, false, false, false, false, false, false, false, false] rfl rfl (by kernel_rfl) (fun _ _ _ h => h) (Or.inl ⟨by rfl, ?_⟩) ?_ ?_
      rotate_left
      · intro w'
        go_simp
        with_reducible rfl
      rotate_left
      · simp only [Act.put, List.setIfInBounds_toArray, List.set_cons_zero, List.set_cons_succ, i64_w, i32_w]
        rfl
      refine take_ (i := 24) (N := some 58) (v := ?_) (a' := ?_) #[true, true, true, true, true, true, true, true, true, true, true, true, true, true, true, true, true, true, true, true, true, true, true, true, true, false, false, false, false, false, false, false, false, false, false, false, false, false, false, false, false, false, false, false, false, false, false, false] rfl rfl (by kernel_rfl) (fun _ _ _ h => h) (Or.inl ⟨by rfl, ?_⟩) hHeld ?_ ?_
      rotate_left
      · rintro w' ⟨s0, s1, s2, s3, s4, s5, s6, s7, s8, s9, s10⟩
        go_simp
        with_reducible rfl
      rotate_left
      · simp only [Act.put, List.setIfInBounds_toArray, List.set_cons_zero, List.set_cons_succ, i64_w, i32_w]
        rfl
      refine pure_ (i := 25) (N := some 59) (v := ?_) (a' := ?_) #[true, true, true, true, true, true, true, true, true, true, true, true, true, true, true, true, true, true, true, true, true, true, true, true, true, true, false, false, false, false, false, false, false, false, false, false, false, false, false, false, false, false, false, false, false, false, false, false] rfl rfl (by kernel_rfl) (fun _ _ _ h => h) (Or.inl ⟨by rfl, ?_⟩) ?_ ?_
      rotate_left
      · intro w'
        go_simp
        with_reducible rfl
      rotate_left
      · simp only [Act.put, List.setIfInBounds_toArray, List.set_cons_zero, List.set_cons_succ, i64_w, i32_w]
        rfl
      refine take_ (i := 26) (N := some 60) (v := ?_) (a' := ?_) #[true, true, true, true, true, true, true, true, true, true, true, true, true, true, true, true, true, true, true, true, true, true, true, true, true, true, true, false, false, false, false, false, false, false, false, false, false, false, false, false, false, false, false, false, false, false, false, false] rfl rfl (by kernel_rfl) (fun _ _ _ h => h) (Or.inl ⟨by rfl, ?_⟩) hHeld ?_ ?_
      rotate_left
      · rintro w' ⟨s0, s1, s2, s3, s4, s5, s6, s7, s8, s9, s10⟩
        go_simp
        with_reducible rfl
      rotate_left
      · simp only [Act.put, List.setIfInBounds_toArray, List.set_cons_zero, List.set_cons_succ, i64_w, i32_w]
        rfl
      refine pure_ (i := 27) (N := some 61) (v := ?_) (a' := ?_) #[true, true, true, true, true, true, true, true, true, true, true, true, true, true, true, true, true, true, true, true, true, true, true, true, true, true, true, true, false, false, false, false, false, false, false, false, false, false, false, false, false, false, false, false, false, false, false, false] rfl rfl (by kernel_rfl) (fun _ _ _ h => h) (Or.inl ⟨by rfl, ?_⟩) ?_ ?_
      rotate_left
      · intro w'
        go_simp
        with_reducible rfl
      rotate_left
      · simp only [Act.put, List.setIfInBounds_toArray, List.set_cons_zero, List.set_cons_succ, i64_w, i32_w]
        rfl
      refine pure_ (i := 28) (N := some 62) (v := ?_) (a' := ?_) #[true, true, true, true, true, true, true, true, true, true, true, true, true, true, true, true, true, true, true, true, true, true, true, true, true, true, true, true, true, false, false, false, false, false, false, false, false, false, false, false, false, false, false, false, false, false, false, false] rfl rfl (by kernel_rfl) (fun _ _ _ h => h) (Or.inl ⟨by rfl, ?_⟩) ?_ ?_
      rotate_left
      · intro w'
        go_simp
        with_reducible rfl
      rotate_left
      · simp only [Act.put, List.setIfInBounds_toArray, List.set_cons_zero, List.set_cons_succ, i64_w, i32_w]
        rfl
      refine take_ (i := 29) (N := some 63) (v := ?_) (a' := ?_) #[true, true, true, true, true, true, true, true, true, true, true, true, true, true, true, true, true, true, true, true, true, true, true, true, true, true, true, true, true, true, false, false, false, false, false, false, false, false, false, false, false, false, false, false, false, false, false, false] rfl rfl (by kernel_rfl) (fun _ _ _ h => h) (Or.inl ⟨by rfl, ?_⟩) hHeld ?_ ?_
      rotate_left
      · rintro w' ⟨s0, s1, s2, s3, s4, s5, s6, s7, s8, s9, s10⟩
        go_simp
        with_reducible rfl
      rotate_left
      · simp only [Act.put, List.setIfInBounds_toArray, List.set_cons_zero, List.set_cons_succ, i64_w, i32_w]
        rfl
      refine pure_ (i := 30) (N := some 64) (v := ?_) (a' := ?_) #[true, true, true, true, true, true, true, true, true, true, true, true, true, true, true, true, true, true, true, true, true, true, true, true, true, true, true, true, true, true, true, false, false, false, false, false, false, false, false, false, false, false, false, false, false, false, false, false] rfl rfl (by kernel_rfl) (fun _ _ _ h => h) (Or.inl ⟨by rfl, ?_⟩) ?_ ?_
      rotate_left
      · intro w'
        go_simp
        with_reducible rfl
      rotate_left
      · simp only [Act.put, List.setIfInBounds_toArray, List.set_cons_zero, List.set_cons_succ, i64_w, i32_w]
        rfl
      refine take_ (i := 31) (N := some 65) (v := ?_) (a' := ?_) #[true, true, true, true, true, true, true, true, true, true, true, true, true, true, true, true, true, true, true, true, true, true, true, true, true, true, true, true, true, true, true, true, false, false, false, false, false, false, false, false, false, false, false, false, false, false, false, false] rfl rfl (by kernel_rfl) (fun _ _ _ h => h) (Or.inl ⟨by rfl, ?_⟩) hHeld ?_ ?_
      rotate_left
      · rintro w' ⟨s0, s1, s2, s3, s4, s5, s6, s7, s8, s9, s10⟩
        go_simp
        with_reducible rfl
      rotate_left
      · simp only [Act.put, List.setIfInBounds_toArray, List.set_cons_zero, List.set_cons_succ, i64_w, i32_w]
        rfl
      refine pure_ (i := 32) (N := some 66) (v := ?_) (a' := ?_) #[true, true, true, true, true, true, true, true, true, true, true, true, true, true, true, true, true, true, true, true, true, true, true, true, true, true, true, true, true, true, true, true, true, false, false, false, false, false, false, false, false, false, false, false, false, false, false, false] rfl rfl (by kernel_rfl) (fun _ _ _ h => h) (Or.inl ⟨by rfl, ?_⟩) ?_ ?_
      rotate_left
      · intro w'
        go_simp
        with_reducible rfl
      rotate_left
      · simp only [Act.put, List.setIfInBounds_toArray, List.set_cons_zero, List.set_cons_succ, i64_w, i32_w]
        rfl
      refine pure_ (i := 33) (N := some 67) (v := ?_) (a' := ?_) #[true, true, true, true, true, true, true, true, true, true, true, true, true, true, true, true, true, true, true, true, true, true, true, true, true, true, true, true, true, true, true, true, true, true, false, false, false, false, false, false, false, false, false, false, false, false, false, false] rfl rfl (by kernel_rfl) (fun _ _ _ h => h) (Or.inl ⟨by rfl, ?_⟩) ?_ ?_
      rotate_left
      · intro w'
        go_simp
        with_reducible rfl
      rotate_left
      · simp only [Act.put, List.setIfInBounds_toArray, List.set_cons_zero, List.set_cons_succ, i64_w, i32_w]
        rfl
      refine pure_ (i := 34) (N := some 68) (v := ?_) (a' := ?_) #[true, true, true, true, true, true, true, true, true, true, true, true, true, true, true, true, true, true, true, true, true, true, true, true, true, true, true, true, true, true, true, true, true, true, true, false, false, false, false, false, false, false, false, false, false, false, false, false] rfl rfl (by kernel_rfl) (fun _ _ _ h => h) (Or.inl ⟨by rfl, ?_⟩) ?_ ?_
      rotate_left
      · intro w'
        go_simp
        with_reducible rfl
      rotate_left
      · simp only [Act.put, List.setIfInBounds_toArray, List.set_cons_zero, List.set_cons_succ, i64_w, i32_w]
        rfl
      refine take_ (i := 35) (N := some 69) (v := ?_) (a' := ?_) #[true, true, true, true, true, true, true, true, true, true, true, true, true, true, true, true, true, true, true, true, true, true, true, true, true, true, true, true, true, true, true, true, true, true, true, true, false, false, false, false, false, false, false, false, false, false, false, false] rfl rfl (by kernel_rfl) (fun _ _ _ h => h) (Or.inl ⟨by rfl, ?_⟩) hHeld ?_ ?_
      rotate_left
      · rintro w' ⟨s0, s1, s2, s3, s4, s5, s6, s7, s8, s9, s10⟩
        go_simp
        with_reducible rfl
      rotate_left
      · simp only [Act.put, List.setIfInBounds_toArray, List.set_cons_zero, List.set_cons_succ, i64_w, i32_w]
        rfl
      refine pure_ (i := 36) (N := some 70) (v := ?_) (a' := ?_) #[true, true, true, true, true, true, true, true, true, true, true, true, true, true, true, true, true, true, true, true, true, true, true, true, true, true, true, true, true, true, true, true, true, true, true, true, true, false, false, false, false, false, false, false, false, false, false, false] rfl rfl (by kernel_rfl) (fun _ _ _ h => h) (Or.inl ⟨by rfl, ?_⟩) ?_ ?_
      rotate_left
      · intro w'
        go_simp
        with_reducible rfl
      rotate_left
      · simp only [Act.put, List.setIfInBounds_toArray, List.set_cons_zero, List.set_cons_succ, i64_w, i32_w]
        rfl
      refine take_ (i := 37) (N := some 71) (v := ?_) (a' := ?_) #[true, true, true, true, true, true, true, true, true, true, true, true, true, true, true, true, true, true, true, true, true, true, true, true, true, true, true, true, true, true, true, true, true, true, true, true, true, true, false, false, false, false, false, false, false, false, false, false] rfl rfl (by kernel_rfl) (fun _ _ _ h => h) (Or.inl ⟨by rfl, ?_⟩) hHeld ?_ ?_
      rotate_left
      · rintro w' ⟨s0, s1, s2, s3, s4, s5, s6, s7, s8, s9, s10⟩
        go_simp
        with_reducible rfl
      rotate_left
      · simp only [Act.put, List.setIfInBounds_toArray, List.set_cons_zero, List.set_cons_succ, i64_w, i32_w]
        rfl
      refine pure_ (i := 38) (N := some 72) (v := ?_) (a' := ?_) #[true, true, true, true, true, true, true, true, true, true, true, true, true, true, true, true, true, true, true, true, true, true, true, true, true, true, true, true, true, true, true, true, true, true, true, true, true, true, true, false, false, false, false, false, false, false, false, false] rfl rfl (by kernel_rfl) (fun _ _ _ h => h) (Or.inl ⟨by rfl, ?_⟩) ?_ ?_
      rotate_left
      · intro w'
        go_simp
        with_reducible rfl
      rotate_left
      · simp only [Act.put, List.setIfInBounds_toArray, List.set_cons_zero, List.set_cons_succ, i64_w, i32_w]
        rfl
      refine pure_ (i := 39) (N := some 73) (v := ?_) (a' := ?_) #[true, true, true, true, true, true, true, true, true, true, true, true, true, true, true, true, true, true, true, true, true, true, true, true, true, true, true, true, true, true, true, true, true, true, true, true, true, true, true, true, false, false, false, false, false, false, false, false] rfl rfl (by kernel_rfl) (fun _ _ _ h => h) (Or.inl ⟨by rfl, ?_⟩) ?_ ?_
      rotate_left
      · intro w'
        go_simp
        with_reducible rfl
      rotate_left
      · simp only [Act.put, List.setIfInBounds_toArray, List.set_cons_zero, List.set_cons_succ, i64_w, i32_w]
        rfl
      refine take_ (i := 40) (N := some 74) (v := ?_) (a' := ?_) #[true, true, true, true, true, true, true, true, true, true, true, true, true, true, true, true, true, true, true, true, true, true, true, true, true, true, true, true, true, true, true, true, true, true, true, true, true, true, true, true, true, false, false, false, false, false, false, false] rfl rfl (by kernel_rfl) (fun _ _ _ h => h) (Or.inl ⟨by rfl, ?_⟩) hHeld ?_ ?_
      rotate_left
      · rintro w' ⟨s0, s1, s2, s3, s4, s5, s6, s7, s8, s9, s10⟩
        go_simp
        with_reducible rfl
      rotate_left
      · simp only [Act.put, List.setIfInBounds_toArray, List.set_cons_zero, List.set_cons_succ, i64_w, i32_w]
        rfl
      refine pure_ (i := 41) (N := some 75) (v := ?_) (a' := ?_) #[true, true, true, true, true, true, true, true, true, true, true, true, true, true, true, true, true, true, true, true, true, true, true, true, true, true, true, true, true, true, true, true, true, true, true, true, true, true, true, true, true, true, false, false, false, false, false, false] rfl rfl (by kernel_rfl) (fun _ _ _ h => h) (Or.inl ⟨by rfl, ?_⟩) ?_ ?_
      rotate_left
      · intro w'
        go_simp
        with_reducible rfl
      rotate_left
      · simp only [Act.put, List.setIfInBounds_toArray, List.set_cons_zero, List.set_cons_succ, i64_w, i32_w]
        rfl
      refine take_ (i := 42) (N := some 76) (v := ?_) (a' := ?_) #[true, true, true, true, true, true, true, true, true, true, true, true, true, true, true, true, true, true, true, true, true, true, true, true, true, true, true, true, true, true, true, true, true, true, true, true, true, true, true, true, true, true, true, false, false, false, false, false] rfl rfl (by kernel_rfl) (fun _ _ _ h => h) (Or.inl ⟨by rfl, ?_⟩) hHeld ?_ ?_
      rotate_left
      · rintro w' ⟨s0, s1, s2, s3, s4, s5, s6, s7, s8, s9, s10⟩
        go_simp
        with_reducible rfl
      rotate_left
      · simp only [Act.put, List.setIfInBounds_toArray, List.set_cons_zero, List.set_cons_succ, i64_w, i32_w]
        rfl
      refine pure_ (i := 43) (N := some 77) (v := ?_) (a' := ?_) #[true, true, true, true, true, true, true, true, true, true, true, true, true, true, true, true, true, true, true, true, true, true, true, true, true, true, true, true, true, true, true, true, true, true, true, true, true, true, true, true, true, true, true, true, false, false, false, false] rfl rfl (by kernel_rfl) (fun _ _ _ h => h) (Or.inl ⟨by rfl, ?_⟩) ?_ ?_
      rotate_left
      · intro w'
        go_simp
        with_reducible rfl
      rotate_left
      · simp only [Act.put, List.setIfInBounds_toArray, List.set_cons_zero, List.set_cons_succ, i64_w, i32_w]
        rfl
      refine pure_ (i := 44) (N := some 78) (v := ?_) (a' := ?_) #[true, true, true, true, true, true, true, true, true, true, true, true, true, true, true, true, true, true, true, true, true, true, true, true, true, true, true, true, true, true, true, true, true, true, true, true, true, true, true, true, true, true, true, true, true, false, false, false] rfl rfl (by kernel_rfl) (fun _ _ _ h => h) (Or.inl ⟨by rfl, ?_⟩) ?_ ?_
      rotate_left
      · intro w'
        go_simp
        with_reducible rfl
      rotate_left
      · simp only [Act.put, List.setIfInBounds_toArray, List.set_cons_zero, List.set_cons_succ, i64_w, i32_w]
        rfl
      refine pure_ (i := 45) (N := some 79) (v := ?_) (a' := ?_) #[true, true, true, true, true, true, true, true, true, true, true, true, true, true, true, true, true, true, true, true, true, true, true, true, true, true, true, true, true, true, true, true, true, true, true, true, true, true, true, true, true, true, true, true, true, true, false, false] rfl rfl (by kernel_rfl) (fun _ _ _ h => h) (Or.inl ⟨by rfl, ?_⟩) ?_ ?_
      rotate_left
      · intro w'
        go_simp
        with_reducible rfl
      rotate_left
      · simp only [Act.put, List.setIfInBounds_toArray, List.set_cons_zero, List.set_cons_succ, i64_w, i32_w]
        rfl
      refine one_ (i := 46) (N := none) #[true, true, true, true, true, true, true, true, true, true, true, true, true, true, true, true, true, true, true, true, true, true, true, true, true, true, true, true, true, true, true, true, true, true, true, true, true, true, true, true, true, true, true, true, true, true, true, false] rfl rfl (by kernel_rfl) (by decide) (fun K hK => ?_)
      refine skip_ (w1 := ?_) (by rfl) rfl ?_ ?_
      rotate_left
      · go_simp
        rfl
      refine hK.out _ _ ⟨?_, ?_, ?_, ?_, ?_, ?_, ?_, ?_, ?_, ?_, ?_⟩ (fun hHeld2 => ?_)
      · rw [World.cell?_drew, cell_far _ _ _ _ n81, cell_far _ _ _ _ n81, cell_far _ _ _ _ n81]; exact d40
      · rw [World.cell?_drew, cell_far _ _ _ _ n81, cell_far _ _ _ _ n81, cell_far _ _ _ _ n81]; exact d41
      · rw [World.cell?_drew, cell_far _ _ _ _ n81, cell_far _ _ _ _ n81, cell_far _ _ _ _ n81]; exact d42
      · rw [World.cell?_drew, cell_far _ _ _ _ n81, cell_far _ _ _ _ n81, cell_far _ _ _ _ n81]; exact d43
      · rw [World.cell?_drew, cell_far _ _ _ _ n51, cell_far _ _ _ _ n51, cell_far _ _ _ _ n51]; exact d50
      · rw [World.cell?_drew, cell_far _ _ _ _ n51, cell_far _ _ _ _ n51, cell_far _ _ _ _ n51]; exact d51
      · rw [World.cell?_drew, cell_far _ _ _ _ n51, cell_far _ _ _ _ n51, cell_far _ _ _ _ n51]; exact d52
      · rw [World.cell?_drew, cell_far _ _ _ _ n61, cell_far _ _ _ _ n61, cell_far _ _ _ _ n61]; exact d60
      · rw [World.cell?_drew, cell_far _ _ _ _ n61, cell_far _ _ _ _ n61, cell_far _ _ _ _ n61]; exact d61
      · rw [World.cell?_drew, cell_far _ _ _ _ n61, cell_far _ _ _ _ n61, cell_far _ _ _ _ n61]; exact d62
      · rw [World.cell?_drew, cell_far _ _ _ _ n61, cell_far _ _ _ _ n61, cell_far _ _ _ _ n61]; exact d63
      clear hK K
      refine last_ (i := 47) (N := none) #[true, true, true, true, true, true, true, true, true, true, true, true, true, true, true, true, true, true, true, true, true, true, true, true, true, true, true, true, true, true, true, true, true, true, true, true, true, true, true, true, true, true, true, true, true, true, true, true] rfl rfl (by kernel_rfl) (by decide) (fun K hK => ?_)
      refine skip_ (w1 := ?_) (by rfl) rfl ?_ ?_
      rotate_left
      · go_simp
        rfl
      refine hK.out _ _ ?_
      clear hK K
      refine done_ (by kernel_rfl) ?_
      go_wp2
      obtain ⟨m1, m2, m3, m4⟩ := M.out
      obtain ⟨ha, hb, hc⟩ := HGA.out
      have hj := MJ.out
      go_roundg (gk - 1)
      case measure => omega
      case rel =>
        exact ⟨j + 1, ⟨_, _, _, _⟩, by rw [KT.out, HTN.out, ← ht.out]; rfl, by omega, by rw [ha, hb, hc]; exact ((m1.put3 _ _ _).far4 (Ne.symm n81) _ _ _ _).drew, ((m2.far3 (by omega) _ _ _).far4 (by omega) _ _ _ _).drew, ((m3.far3 (by omega) _ _ _).far4 (by omega) _ _ _ _).drew, ((m4.far3 n81 _ _ _).put4 _ _ _ _).drew, (below4 (below3 MB.out (Nat.le_refl _) _ _ _) (by omega) _ _ _ _).drew⟩
    · obtain rfl : j = n := by omega
      rw [decide_eq_true K1.out] at hred
      clear hIj
      go_wp2_with (go_at_call 46; refine (hred _).mono ?_; rintro e w4 ⟨rfl, hb4⟩; obtain ⟨hc4, hf4⟩ := bcell hb4)
      obtain ⟨k1, k2, k3, k4⟩ := K.out
      have m1 := k1.below' hb4
      have m2 := k2.below' hb4
      have m3 := k3.below' hb4
      have m4 := k4.below' hb4
      have hw4 := hb.trans (hb4.mono hb.size)
      have lt18 : w.heap.size + 1 + 1 < w2.heap.size := LT.out
      clear hc4 hf4 c10 c11 c12 c40 c41 c42 c43 f1 f4 k1 k2 k3 k4 K hb4 hred Z HB0 hb1 hb2 hb l1
      obtain ⟨d10, d11, d12⟩ := m1.c3
      obtain ⟨d20, d21, d22⟩ := m2.c3
      obtain ⟨d30, d31, d32, d33⟩ := m3.c4
      obtain ⟨d40, d41, d42, d43⟩ := m4.c4
      have e2 := fun i => m2.frozen i
      have e3 := fun i => m3.frozen i
      have M := Lib.hid (And.intro m2 m3)
      have MB := Lib.hid hw4
      clear m1 m2 m3 m4 hw4
      generalize w2.heap.size = B8 at *
      go_region
      go_wp2
      obtain ⟨m2, m3⟩ := M.out
      have r2 := ((m2.put3 (.int .i64 (F j).a) (.int .i64 (F j).b) (.int .i64 (F j).c)).far4 (g' := w.heap.size + 1 + 1) (by omega) (.int .i64 t.p) (.int .i64 t.q) (.int .i64 t.r) (.int .i64 t.s)).drew
      have r3 := ((m3.far3 (g' := w.heap.size + 1) (by omega) (.int .i64 (F j).a) (.int .i64 (F j).b) (.int .i64 (F j).c)).put4 (.int .i64 t.p) (.int .i64 t.q) (.int .i64 t.r) (.int .i64 t.s)).drew
      obtain ⟨q0, q1, q2⟩ := r2.c3
      obtain ⟨p0, p1, p2, p3⟩ := r3.c4
      have hfin := (below4 (below3 MB.out (g := w.heap.size + 1) (by omega) (.int .i64 (F j).a) (.int .i64 (F j).b) (.int .i64 (F j).c)) (g := w.heap.size + 1 + 1) (by omega) (.int .i64 t.p) (.int .i64 t.q) (.int .i64 t.r) (.int .i64 t.s)).drew
      refine bodyPost_ret (v := .tuple #[.agg #[.int .i64 (F j).a, .int .i64 (F j).b, .int .i64 (F j).c], .agg #[.int .i64 t.p, .int .i64 t.q, .int .i64 t.r, .int .i64 t.s], .int .i64 0]) ?_ rfl ⟨by rw [ht.out], hfin⟩
      clear ht
      simp [results, Try.results17, go_sem, q0, q1, q2, p0, p1, p2, p3]

end Go.Proofs.Ytljhbjkdifmonaa

namespace Go.Proofs.Ytljhbjkdifmonaa
open Go.RowKit Pq

/-- A form's cells; a list's. -/
def binCells (f : Bin) : List Value := [.int .i64 f.a, .int .i64 f.b, .int .i64 f.c]
def rowOf (l : List Bin) : List Value := l.flatMap binCells
theorem rowOf_snoc (l : List Bin) (f : Bin) : rowOf (l ++ [f]) = rowOf l ++ binCells f := by simp [rowOf]
theorem rowOf_length (l : List Bin) : (rowOf l).length = l.length * 3 := by
  induction l with
  | nil => rfl
  | cons a l ih => simp [rowOf, binCells] at ih ⊢; omega
theorem binCells_one (f : Bin) : ∀ u ∈ binCells f, u.oneCell' = true := by
  intro u hu; simp [binCells] at hu; rcases hu with rfl | rfl | rfl <;> rfl
theorem bin_at (w : World) (f : Bin) : ∀ (j : Nat) (u : Value), (binCells f)[j]? = some u → (w.alloc (Obj.cells #[.int .i64 f.a, .int .i64 f.b, .int .i64 f.c] 23)).cell? ((⟨w.heap.size, 0, none⟩ : Addr).add j) = some u := by
  intro j u h
  have hb := Blk.new w 23 #[.int .i64 f.a, .int .i64 f.b, .int .i64 f.c]
  have hj : j = 0 ∨ j = 1 ∨ j = 2 := by
    have := (List.getElem?_eq_some_iff.1 h).1
    simp [binCells] at this; omega
  rcases hj with rfl | rfl | rfl
  · simp [binCells] at h; subst h; exact hb.cell 0
  · simp [binCells] at h; subst h; exact hb.cell 1
  · simp [binCells] at h; subst h; exact hb.cell 2

theorem info23 : (Try.prog.info? 23).map (fun i => (i.zero, i.size, i.bytes)) = some (some (.agg #[.int .i64 0, .int .i64 0, .int .i64 0]), 3, 24) := by kernel_rfl

theorem own_slice {w : World} {base : Nat} {e : TypeId} {size : Nat} {v : Value} {n : Nat} {xs : List Value} (h : w.ownsRow base e size v n xs) : ∃ A c, v = .slice A n c := by
  rcases h.2 with ⟨rfl, rfl⟩ | ⟨g, cap, cur, rfl, _⟩
  · exact ⟨none, 0, rfl⟩
  · exact ⟨_, _, rfl⟩

theorem own_ne {w : World} {base : Nat} {e : TypeId} {size : Nat} {v : Value} {n : Nat} {xs : List Value} (h : w.ownsRow base e size v n xs) {b : Nat} (hb : b < base) : some b ≠ v.ownBlock := fun he => by
  have := (h.lt b he.symm).1
  omega

def lenOf : Value → Nat | .slice _ n _ => n | _ => 0

/-- The state at the label: k forms are told. -/
def RJ (w0 : World) (F : Nat → Bin) (d s : Int) (N B b6 : Nat) (a : Act) (w : World) : Prop :=
  ∃ (k : Nat) (A : Option Addr) (c : Nat) (u7 u8 u9 u10 u11 u12 u13 u14 u15 u16 u17 u18 u19 u20 u21 u22 u23 u24 u25 u26 u27 u28 u29 u30 : Value),
    a = { tmps := #[.agg #[.int .i64 (F 0).a, .int .i64 (F 0).b, .int .i64 (F 0).c], .pointer (some ⟨B, 0, none⟩), .slice A k c, .bool false, .int .i64 d, .int .i64 s, .pointer (some ⟨b6, 0, none⟩), u7, u8, u9, u10, u11, u12, u13, u14, u15, u16, u17, u18, u19, u20, u21, u22, u23, u24, u25, u26, u27, u28, u29, u30], defers := [] } ∧
    k < N ∧ w.ownsRow (b6 + 1) 23 3 (.slice A k c) k (rowOf ((List.range k).map F)) ∧ Blk w B 23 #[.int .i64 (F 0).a, .int .i64 (F 0).b, .int .i64 (F 0).c] ∧ Blk w b6 23 #[.int .i64 (F k).a, .int .i64 (F k).b, .int .i64 (F k).c] ∧ b6 + 1 ≤ w.heap.size ∧ Below w0.heap.size w0 w

set_option maxRecDepth 100000 in
set_option maxHeartbeats 4000000 in
theorem round_closes (F : Nat → Bin) (d s : Int) (N : Nat) (w : World) (hF : ∀ k, F (k + 1) = nxt d s (F k)) (hin : ∀ k, Within 1073741824 (F k) ∧ (F k).disc = d) (hcr : Cross d s) (hlt : d < 1152921504606846976)
    (hN : 0 < N) (hN2 : N ≤ 4096) (hend : F N = F 0) (hne : ∀ k, 0 < k → k < N → F k ≠ F 0) :
    Calls Try.prog 50 #[.agg #[.int .i64 (F 0).a, .int .i64 (F 0).b, .int .i64 (F 0).c]] w fun e w' => ∃ v, e = .returned (.tuple #[v, .bool false]) ∧ w'.ownsRow w.heap.size 23 3 v N (rowOf ((List.range N).map F)) ∧ Below w.heap.size w w' := by
  obtain ⟨i0, hi, hz0, hz1, hz2⟩ := info_parts info23
  have hdisc := fun W => discf_any (F 0) W (hin 0).1
  rw [(hin 0).2] at hdisc
  have hroot := fun W => root_any d s W (by have := hcr.pos; omega) (by omega) hcr.root
  go_enter Try.func50, Try.ntmps50
  go_wp2
  refine wp_scope_jumps 0 (fun a' w' => ∃ b6, w.heap.size < b6 ∧ RJ w F d s N w.heap.size b6 a' w') (fun a' _ => 4096 - lenOf (a'.tmps.getD 2 undef)) rfl ?_ ?_
  · go_wp2_with (first
      | (go_at_call 57; refine (hdisc _).mono ?_; rintro e w2 ⟨rfl, hb2⟩; obtain ⟨hc2, hf2⟩ := bcell hb2)
      | (go_at_call 45; refine (hroot _).mono ?_; rintro e w3 ⟨rfl, rfl⟩))
    have hB := ((Blk.new w 23 #[.int .i64 (F 0).a, .int .i64 (F 0).b, .int .i64 (F 0).c]).below' hb2).alloc (Obj.cells #[.int .i64 (F 0).a, .int .i64 (F 0).b, .int .i64 (F 0).c] 23)
    have h6 := Blk.new w2 23 #[.int .i64 (F 0).a, .int .i64 (F 0).b, .int .i64 (F 0).c]
    have hb6 : w.heap.size < w2.heap.size := by have := hb2.size; simp at this; omega
    have hsz : w2.heap.size + 1 ≤ (w2.alloc (Obj.cells #[.int .i64 (F 0).a, .int .i64 (F 0).b, .int .i64 (F 0).c] 23)).heap.size := by simp
    have hbl : Below w.heap.size w (w2.alloc (Obj.cells #[.int .i64 (F 0).a, .int .i64 (F 0).b, .int .i64 (F 0).c] 23)) :=
      (((Below.refl _ _).alloc (Nat.le_refl _) _).trans (hb2.mono (by simp))).alloc (by omega) _
    have hown : (w2.alloc (Obj.cells #[.int .i64 (F 0).a, .int .i64 (F 0).b, .int .i64 (F 0).c] 23)).ownsRow (w2.heap.size + 1) 23 3 (.slice none 0 0) 0 (rowOf ((List.range 0).map F)) := ⟨by simp [rowOf], .inl ⟨rfl, rfl⟩⟩
    clear hb2 hc2 hf2
    generalize w2.alloc (Obj.cells #[.int .i64 (F 0).a, .int .i64 (F 0).b, .int .i64 (F 0).c] 23) = w' at *
    generalize w2.heap.size = b6 at *
    go_step3
    have hkb : (((0 : Nat) : Int) == 4096) = false := by simp
    have hnx := fun W => next_any (F 0) d s W (hin 0).1 hcr hlt (hin 0).2
    rw [← hF 0] at hnx
    generalize turnN s (F 0) = tn at *
    obtain ⟨c60, c61, c62⟩ := h6.c3
    have HI := Lib.hid (And.intro hB h6)
    have HN := Lib.hid hne
    have HE := Lib.hid hend
    have HO := Lib.hid hown
    have HM := Lib.hid (rowOf_snoc ((List.range 0).map F) (F 0))
    clear hB h6 hne hend hF hown hin hdisc hroot
    by_cases hlast : 0 + 1 = N
    · have hne1 := fun W => neq23 W (F (0 + 1)) (F 0)
      rw [decide_eq_true (show F (0 + 1) = F 0 by rw [hlast, HE.out])] at hne1
      have HL := Lib.hid hlast
      clear hlast
      simp only [Bool.not_true] at hne1
      go_wp2_with (first
        | (at_builtin
           refine wpList_append_own _ rfl _ _ 32 rfl (b6 + 1) 23 i0 (.agg #[.int .i64 0, .int .i64 0, .int .i64 0]) 3 24 Try.underlying32 hi hz0 hz1 hz2 rfl (by decide) (.slice none 0 0) _ _ rfl (HO.out.alloc _) ⟨w'.heap.size, 0, none⟩ 1 1 (binCells (F 0)) rfl rfl (bin_at w' (F 0)) (binCells_one (F 0)) (by unfold maxLen; omega) (by omega) (by simp; omega) ?_
           intro v1 w1 hown1 hgrow1 _
           obtain ⟨A1, c1, rfl⟩ := own_slice hown1
           have g1 := (HI.out.1.alloc (Obj.cells #[.int .i64 (F 0).a, .int .i64 (F 0).b, .int .i64 (F 0).c] 23)).grown hgrow1 (own_ne HO.out (by omega))
           have g6 := (HI.out.2.alloc (Obj.cells #[.int .i64 (F 0).a, .int .i64 (F 0).b, .int .i64 (F 0).c] 23)).grown hgrow1 (own_ne HO.out (by omega))
           obtain ⟨p0, p1, p2⟩ := g1.c3
           obtain ⟨q0, q1, q2⟩ := g6.c3
           have q3 := fun i => g6.frozen i
           have l1 := g1.lt
           have l6 := g6.lt
           have bl1 := Lib.hid ((hbl.alloc hbl.size (Obj.cells #[.int .i64 (F 0).a, .int .i64 (F 0).b, .int .i64 (F 0).c] 23)).grown hgrow1 (by have := hbl.size; simp; omega) (fun j hj => by have := (HO.out.lt j hj).1; omega))
           have gs := hgrow1.size
           simp only [World.size_alloc] at gs
           have G := Lib.hid (And.intro g1 (And.intro g6 hown1))
           clear g1 g6 hown1 hgrow1)
        | (go_at_call 58; refine (hnx _).mono ?_; rintro e w5 ⟨rfl, hb5⟩; obtain ⟨hc5, hf5⟩ := bcell hb5))
      simp only [Exit.jump]
      go_ret2
      obtain ⟨g1, g6, hown1⟩ := G.out
      refine ⟨_, rfl, ?_, below3 (bl1.out.trans (hb5.mono (by omega))) (by omega) _ _ _⟩
      rw [← HL.out, List.range_succ, List.map_append]
      exact own_base (own_set3 (own_below (HM.out ▸ hown1) hb5) (Nat.lt_succ_self _) _ _ _) (by omega)
    · have hn1 : F (0 + 1) ≠ F 0 := HN.out (0 + 1) (by omega) (by omega)
      have hne1 := fun W => neq23 W (F (0 + 1)) (F 0)
      rw [decide_eq_false hn1] at hne1
      clear hn1
      simp only [Bool.not_false] at hne1
      go_wp2_with (first
        | (at_builtin
           refine wpList_append_own _ rfl _ _ 32 rfl (b6 + 1) 23 i0 (.agg #[.int .i64 0, .int .i64 0, .int .i64 0]) 3 24 Try.underlying32 hi hz0 hz1 hz2 rfl (by decide) (.slice none 0 0) _ _ rfl (HO.out.alloc _) ⟨w'.heap.size, 0, none⟩ 1 1 (binCells (F 0)) rfl rfl (bin_at w' (F 0)) (binCells_one (F 0)) (by unfold maxLen; omega) (by omega) (by simp; omega) ?_
           intro v1 w1 hown1 hgrow1 _
           obtain ⟨A1, c1, rfl⟩ := own_slice hown1
           have g1 := (HI.out.1.alloc (Obj.cells #[.int .i64 (F 0).a, .int .i64 (F 0).b, .int .i64 (F 0).c] 23)).grown hgrow1 (own_ne HO.out (by omega))
           have g6 := (HI.out.2.alloc (Obj.cells #[.int .i64 (F 0).a, .int .i64 (F 0).b, .int .i64 (F 0).c] 23)).grown hgrow1 (own_ne HO.out (by omega))
           obtain ⟨p0, p1, p2⟩ := g1.c3
           obtain ⟨q0, q1, q2⟩ := g6.c3
           have q3 := fun i => g6.frozen i
           have l1 := g1.lt
           have l6 := g6.lt
           have bl1 := Lib.hid ((hbl.alloc hbl.size (Obj.cells #[.int .i64 (F 0).a, .int .i64 (F 0).b, .int .i64 (F 0).c] 23)).grown hgrow1 (by have := hbl.size; simp; omega) (fun j hj => by have := (HO.out.lt j hj).1; omega))
           have gs := hgrow1.size
           simp only [World.size_alloc] at gs
           have G := Lib.hid (And.intro g1 (And.intro g6 hown1))
           clear g1 g6 hown1 hgrow1)
        | (go_at_call 58; refine (hnx _).mono ?_; rintro e w5 ⟨rfl, hb5⟩; obtain ⟨hc5, hf5⟩ := bcell hb5))
      go_step3
      obtain ⟨g1, g6, hown1⟩ := G.out
      refine ⟨rfl, b6, hb6, 0 + 1, A1, c1, _, _, _, _, _, _, _, _, _, _, _, _, _, _, _, _, _, _, _, _, _, _, _, _, rfl, by omega, ?_, ((g1.below' hb5).far3 (by omega) _ _ _), ((g6.below' hb5).put3 _ _ _), ?_, below3 (bl1.out.trans (hb5.mono (by omega))) (by omega) _ _ _⟩
      · rw [List.range_succ, List.map_append]
        exact own_set3 (own_below (HM.out ▸ hown1) hb5) (Nat.lt_succ_self _) _ _ _
      · have := hb5.size
        simp [World.setCell]; omega
  · rintro a' w' ⟨b6, hb6, k, A, c, u7, u8, u9, u10, u11, u12, u13, u14, u15, u16, u17, u18, u19, u20, u21, u22, u23, u24, u25, u26, u27, u28, u29, u30, rfl, hk, hown, hB, h6, hsz, hbl⟩
    have hkb : (((k : Nat) : Int) == 4096) = false := by simp; omega
    have hnx := fun W => next_any (F k) d s W (hin k).1 hcr hlt (hin k).2
    rw [← hF k] at hnx
    generalize turnN s (F k) = tn at *
    obtain ⟨c60, c61, c62⟩ := h6.c3
    have HI := Lib.hid (And.intro hB h6)
    have HN := Lib.hid hne
    have HE := Lib.hid hend
    have HO := Lib.hid hown
    have HM := Lib.hid (rowOf_snoc ((List.range k).map F) (F k))
    clear hB h6 hne hend hF hown hin hdisc hroot
    by_cases hlast : k + 1 = N
    · have hne1 := fun W => neq23 W (F (k + 1)) (F 0)
      rw [decide_eq_true (show F (k + 1) = F 0 by rw [hlast, HE.out])] at hne1
      have HL := Lib.hid hlast
      clear hlast
      simp only [Bool.not_true] at hne1
      go_wp2_with (first
        | (at_builtin
           refine wpList_append_own _ rfl _ _ 32 rfl (b6 + 1) 23 i0 (.agg #[.int .i64 0, .int .i64 0, .int .i64 0]) 3 24 Try.underlying32 hi hz0 hz1 hz2 rfl (by decide) (.slice A k c) _ _ rfl (HO.out.alloc _) ⟨w'.heap.size, 0, none⟩ 1 1 (binCells (F k)) rfl rfl (bin_at w' (F k)) (binCells_one (F k)) (by unfold maxLen; omega) (by omega) (by simp; omega) ?_
           intro v1 w1 hown1 hgrow1 _
           obtain ⟨A1, c1, rfl⟩ := own_slice hown1
           have g1 := (HI.out.1.alloc (Obj.cells #[.int .i64 (F k).a, .int .i64 (F k).b, .int .i64 (F k).c] 23)).grown hgrow1 (own_ne HO.out (by omega))
           have g6 := (HI.out.2.alloc (Obj.cells #[.int .i64 (F k).a, .int .i64 (F k).b, .int .i64 (F k).c] 23)).grown hgrow1 (own_ne HO.out (by omega))
           obtain ⟨p0, p1, p2⟩ := g1.c3
           obtain ⟨q0, q1, q2⟩ := g6.c3
           have q3 := fun i => g6.frozen i
           have l1 := g1.lt
           have l6 := g6.lt
           have bl1 := Lib.hid ((hbl.alloc hbl.size (Obj.cells #[.int .i64 (F k).a, .int .i64 (F k).b, .int .i64 (F k).c] 23)).grown hgrow1 (by have := hbl.size; simp; omega) (fun j hj => by have := (HO.out.lt j hj).1; omega))
           have gs := hgrow1.size
           simp only [World.size_alloc] at gs
           have G := Lib.hid (And.intro g1 (And.intro g6 hown1))
           clear g1 g6 hown1 hgrow1)
        | (go_at_call 58; refine (hnx _).mono ?_; rintro e w5 ⟨rfl, hb5⟩; obtain ⟨hc5, hf5⟩ := bcell hb5))
      simp only [Exit.jump]
      go_ret2
      obtain ⟨g1, g6, hown1⟩ := G.out
      refine ⟨_, rfl, ?_, below3 (bl1.out.trans (hb5.mono (by omega))) (by omega) _ _ _⟩
      rw [← HL.out, List.range_succ, List.map_append]
      exact own_base (own_set3 (own_below (HM.out ▸ hown1) hb5) (Nat.lt_succ_self _) _ _ _) (by omega)
    · have hn1 : F (k + 1) ≠ F 0 := HN.out (k + 1) (by omega) (by omega)
      have hne1 := fun W => neq23 W (F (k + 1)) (F 0)
      rw [decide_eq_false hn1] at hne1
      clear hn1
      simp only [Bool.not_false] at hne1
      go_wp2_with (first
        | (at_builtin
           refine wpList_append_own _ rfl _ _ 32 rfl (b6 + 1) 23 i0 (.agg #[.int .i64 0, .int .i64 0, .int .i64 0]) 3 24 Try.underlying32 hi hz0 hz1 hz2 rfl (by decide) (.slice A k c) _ _ rfl (HO.out.alloc _) ⟨w'.heap.size, 0, none⟩ 1 1 (binCells (F k)) rfl rfl (bin_at w' (F k)) (binCells_one (F k)) (by unfold maxLen; omega) (by omega) (by simp; omega) ?_
           intro v1 w1 hown1 hgrow1 _
           obtain ⟨A1, c1, rfl⟩ := own_slice hown1
           have g1 := (HI.out.1.alloc (Obj.cells #[.int .i64 (F k).a, .int .i64 (F k).b, .int .i64 (F k).c] 23)).grown hgrow1 (own_ne HO.out (by omega))
           have g6 := (HI.out.2.alloc (Obj.cells #[.int .i64 (F k).a, .int .i64 (F k).b, .int .i64 (F k).c] 23)).grown hgrow1 (own_ne HO.out (by omega))
           obtain ⟨p0, p1, p2⟩ := g1.c3
           obtain ⟨q0, q1, q2⟩ := g6.c3
           have q3 := fun i => g6.frozen i
           have l1 := g1.lt
           have l6 := g6.lt
           have bl1 := Lib.hid ((hbl.alloc hbl.size (Obj.cells #[.int .i64 (F k).a, .int .i64 (F k).b, .int .i64 (F k).c] 23)).grown hgrow1 (by have := hbl.size; simp; omega) (fun j hj => by have := (HO.out.lt j hj).1; omega))
           have gs := hgrow1.size
           simp only [World.size_alloc] at gs
           have G := Lib.hid (And.intro g1 (And.intro g6 hown1))
           clear g1 g6 hown1 hgrow1)
        | (go_at_call 58; refine (hnx _).mono ?_; rintro e w5 ⟨rfl, hb5⟩; obtain ⟨hc5, hf5⟩ := bcell hb5))
      go_step3
      obtain ⟨g1, g6, hown1⟩ := G.out
      refine ⟨rfl, ⟨b6, hb6, k + 1, A1, c1, _, _, _, _, _, _, _, _, _, _, _, _, _, _, _, _, _, _, _, _, _, _, _, _, rfl, by omega, ?_, ((g1.below' hb5).far3 (by omega) _ _ _), ((g6.below' hb5).put3 _ _ _), ?_, below3 (bl1.out.trans (hb5.mono (by omega))) (by omega) _ _ _⟩, ?_⟩
      · rw [List.range_succ, List.map_append]
        exact own_set3 (own_below (HM.out ▸ hown1) hb5) (Nat.lt_succ_self _) _ _ _
      · have := hb5.size
        simp [World.setCell]; omega
      · simp [lenOf]; omega

end Go.Proofs.Ytljhbjkdifmonaa

namespace Go.Proofs.Ytljhbjkdifmonaa
open Go.RowKit Pq

theorem rsize_any (x : Int) (w : World) (h0 : -4611686018427387904 ≤ x) (h1 : x ≤ 4611686018427387904) :
    Calls Try.prog 87 #[.int .i64 x] w fun e w' => e = .returned (.int .i64 (sz x)) ∧ w = w' := by
  by_cases h : x < 0
  · go_enter Try.func87, Try.ntmps87
    go_wp2
    go_ret
    exact ⟨ret_int (by unfold sz; rw [if_pos h]), rfl⟩
  · go_enter Try.func87, Try.ntmps87
    go_wp2
    go_ret
    exact ⟨ret_int (by unfold sz; split <;> omega), rfl⟩

theorem rsize_abs (x : Int) (w : World) (h0 : -4611686018427387904 ≤ x) (h1 : x ≤ 4611686018427387904) :
    Calls Try.prog 87 #[.int .i64 x] w fun e w' => e = .returned (.int .i64 (x.natAbs : Int)) ∧ w = w' := by
  have := rsize_any x w h0 h1
  rw [show sz x = (x.natAbs : Int) by unfold sz; split <;> omega] at this
  exact this

theorem rroot_step {d s Q : Int} (h2 : d < (s + 2 * Q) * (s + 2 * Q)) (hc : (s + Q) * (s + Q) ≤ d) : d < (s + Q + Q) * (s + Q + Q) := by
  rw [show s + Q + Q = s + 2 * Q by omega]; exact h2

set_option maxHeartbeats 400000 in
theorem rroot_any (d s : Int) (w : World) (h0 : 0 ≤ d) (h1 : d < 4611686018427387904) (hs : IsRoot s d) :
    Calls Try.prog 52 #[.int .i64 d] w fun e w' => e = .returned (.int .i64 s) ∧ w = w' := by
  go_enter Try.func52, Try.ntmps52
  go_wp2
  go_loop [3, 4] (fun u v => ∃ (k : Nat) (x P : Int), k ≤ 32 ∧ u = .int .i64 x ∧ v = .int .i64 (P / 2) ∧ Hid (P = (2 : Int) ^ k) ∧ 0 ≤ x ∧ Hid (x * x ≤ d) ∧ Hid (d < (x + P) * (x + P)) ∧ 1 ≤ P ∧ P ≤ 4294967296 ∧ (k = 32 → x = 0) ∧ (k < 32 → x + P ≤ 2147483648)) (fun _ v => (intOf v).toNat)
  case atStart => exact ⟨32, 0, 4294967296, by omega, rfl, rfl, by show _ = _; rfl, by omega, by show _ ≤ _; omega, by show _ < _; omega, by omega, by omega, fun _ => rfl, by omega⟩
  case round =>
    obtain ⟨k, x, P, hk, rfl, rfl, hP, hx, hle, hlt, hP1, hP2, h32, h31⟩ := hrel
    have H := Lib.hid (And.intro h32 h31)
    cases k with
    | zero =>
      obtain rfl : P = 1 := by rw [hP.out]; rfl
      clear h32 h31
      go_wp2
      go_ret
      have hl := hle.out; have hl2 := hlt.out
      exact ⟨ret_int (IsRoot.unique ⟨hx, hl, hl2⟩ hs), rfl⟩
    | succ k =>
      obtain ⟨Q, hQ, hQ1⟩ : ∃ Q : Int, P = 2 * Q ∧ Q = (2 : Int) ^ k := ⟨(2 : Int) ^ k, by rw [hP.out, Int.pow_succ]; omega, rfl⟩
      subst hQ
      have HQ := Lib.hid hQ1
      clear hQ1 hP
      have e2 : 2 * Q / 2 = Q := by omega
      have hb : x + Q ≤ 2147483648 := by
        by_cases hk2 : k + 1 = 32
        · have := h32 hk2; omega
        · have := h31 (by omega); omega
      have hsq : (x + Q) * (x + Q) ≤ 2147483648 * 2147483648 := mul_self_le (by omega) hb
      have hsq0 := sq_nonneg (x + Q)
      clear h32 h31
      by_cases hc : (x + Q) * (x + Q) ≤ d
      · have hxQ : x + Q < 2147483648 := lt_of_mul_self_lt (by omega) (by omega)
        have HC := Lib.hid hc
        go_wp2
        go_round
        case rel =>
          refine ⟨k, x + Q, Q, by omega, rfl, rfl, HQ, by omega, HC, rroot_step hlt.out HC.out, by omega, by omega, by omega, fun _ => ?_⟩
          by_cases hk2 : k + 1 = 32
          · obtain rfl : k = 31 := by omega
            have := HQ.out
            have : Q = 2147483648 := by rw [this]; rfl
            omega
          · have := H.out.2 (by omega); omega
        case measure => simp [intOf]; omega
      · have HC := Lib.hid hc
        go_wp2
        go_round
        case rel => exact ⟨k, x, Q, by omega, rfl, rfl, HQ, by omega, hle, by have := HC.out; show _ < _; omega, by omega, by omega, by omega, fun _ => by omega⟩
        case measure => simp [intOf]; omega

theorem rcross_any (d : Int) (w : World) : Calls Try.prog 51 #[.int .i64 d] w fun e w' => e = .returned (.bool (crossB d)) ∧ w = w' := by
  cases h : crossB d with
  | true =>
    obtain ⟨h1, h2, h3⟩ := crossB_true h
    have hr := fun W => rroot_any d (rt d) W (by have := h1.pos; omega) (by omega) h1.root
    have hn : (rt d * rt d != d) = true := by simpa using h1.nsq
    have l0 : 0 ≤ rt d * rt d := sq_nonneg _
    have l1 : rt d * rt d ≤ d := h1.root.le
    have l2 := h1.pos
    clear h1 h
    generalize rt d = s at *
    go_enter Try.func51, Try.ntmps51
    go_wp2_with (go_at_call 52; refine (hr _).mono ?_; rintro e w' ⟨rfl, rfl⟩)
    go_ret
    exact ⟨rfl, rfl⟩
  | false =>
    rcases crossB_false h with h1 | ⟨h0, h1, h2, h3, h4⟩
    · by_cases ha : d < 1
      · clear h1 h
        go_enter Try.func51, Try.ntmps51
        go_wp2
        go_ret
        exact ⟨rfl, rfl⟩
      by_cases hb : 1152921504606846976 ≤ d
      · clear h1 h
        go_enter Try.func51, Try.ntmps51
        go_wp2
        go_ret
        exact ⟨rfl, rfl⟩
      have hc : 1 < d % 4 := by omega
      clear h1 h
      go_enter Try.func51, Try.ntmps51
      go_wp2
      go_ret
      exact ⟨rfl, rfl⟩
    · have hr := fun W => rroot_any d (rt d) W (by omega) (by omega) (rt_root (by omega))
      have hn : (rt d * rt d != d) = false := by simpa using h1
      have l0 : 0 ≤ rt d * rt d := sq_nonneg _
      have l1 : rt d * rt d ≤ d := by omega
      clear h1 h
      generalize rt d = s at *
      go_enter Try.func51, Try.ntmps51
      go_wp2_with (go_at_call 52; refine (hr _).mono ?_; rintro e w' ⟨rfl, rfl⟩)
      go_ret
      exact ⟨rfl, rfl⟩

theorem rgcd_any (a b : Int) (w : World) (ha : -4611686018427387904 ≤ a ∧ a ≤ 4611686018427387904) (hb : -4611686018427387904 ≤ b ∧ b ≤ 4611686018427387904) :
    Calls Try.prog 86 #[.int .i64 a, .int .i64 b] w fun e w' => e = .returned (.int .i64 (Int.gcd a b)) ∧ w = w' := by
  obtain ⟨ha1, ha2⟩ := ha
  obtain ⟨hb1, hb2⟩ := hb
  have HG := Lib.hid (show Int.gcd a b = Nat.gcd a.natAbs b.natAbs from rfl)
  generalize Int.gcd a b = G at *
  go_enter Try.func86, Try.ntmps86
  go_wp2_with (go_at_call 87; refine (rsize_abs _ _ (by omega) (by omega)).mono ?_; rintro e w' ⟨rfl, rfl⟩)
  have hA : (a.natAbs : Int) ≤ 4611686018427387904 := by omega
  have hB : (b.natAbs : Int) ≤ 4611686018427387904 := by omega
  generalize a.natAbs = x0 at *
  generalize b.natAbs = y0 at *
  go_loop [0, 1] (fun u v => ∃ x y : Nat, u = .int .i64 x ∧ v = .int .i64 y ∧ (x : Int) ≤ 4611686018427387904 ∧ (y : Int) ≤ 4611686018427387904 ∧ Hid (Nat.gcd x y = Nat.gcd x0 y0)) (fun _ v => (intOf v).toNat)
  case atStart => exact ⟨x0, y0, rfl, rfl, hA, hB, rfl⟩
  case round =>
    obtain ⟨x, y, rfl, rfl, hx, hy, hg⟩ := hrel
    by_cases hp : 0 < y
    · have hlt2 : (x : Int) % (y : Int) < y := Int.emod_lt_of_pos _ (by omega)
      have hge2 : 0 ≤ (x : Int) % (y : Int) := Int.emod_nonneg _ (by omega)
      have hyb : ((y : Int) == 0) = false := by simp; omega
      go_wp2
      go_round
      case rel => exact ⟨y, x % y, rfl, by simp, hy, by simp; omega, by show Nat.gcd y (x % y) = _; rw [← hg.out, Nat.gcd_comm x y, Nat.gcd_rec y x, Nat.gcd_comm]⟩
      case measure => simp [intOf]; omega
    · obtain rfl : y = 0 := by omega
      have hgu : Hid (x = Nat.gcd x0 y0) := by show _ = _; rw [← hg.out, Nat.gcd_zero_right]
      clear hg
      go_wp2
      go_ret
      exact ⟨ret_int (by rw [HG.out, ← hgu.out]), rfl⟩

end Go.Proofs.Ytljhbjkdifmonaa

namespace Go.Proofs.Ytljhbjkdifmonaa
open Go.RowKit Pq

theorem rred_any (f : Bin) (d s : Int) (w : World) (hw : Within 1073741824 f) (hcr : Cross d s) (hlt : d < 1152921504606846976) (hf : f.disc = d) :
    Calls Try.prog 85 #[.agg #[.int .i64 f.a, .int .i64 f.b, .int .i64 f.c]] w fun e w' => e = .returned (.bool (decide (Red s f))) ∧ Below w.heap.size w w' := by
  have hr := fun W => rroot_any d s W (by have := hcr.pos; omega) (by omega) hcr.root
  obtain ⟨hb1, hb2⟩ := hw.b
  obtain ⟨ha1, ha2⟩ := hw.a
  have hz := sz_nonneg f.a
  have hz1 := sz_le hw.a
  have hsz := fun W => rsize_any f.a W (by omega) (by omega)
  obtain ⟨q1, q2⟩ := hw.bb
  obtain ⟨q3, q4⟩ := hw.ac
  have hs0 := hcr.spos
  have hs1 : s < 1073741824 := lt_of_mul_self_lt (by omega) (by have := hcr.lt; omega)
  have hdd : f.b * f.b - 4 * f.a * f.c = d := hf
  clear hf hcr hw
  obtain ⟨a, b, c⟩ := f
  simp only at *
  by_cases h : Red s ⟨a, b, c⟩
  · rw [decide_eq_true h]
    obtain ⟨k1, k2, k3, k4⟩ := h
    simp only at k1 k2 k3 k4
    generalize sz a = z at *
    go_enter Try.func85, Try.ntmps85
    go_wp2_with (first | (go_at_call 52; refine (hr _).mono ?_; rintro e w' ⟨rfl, rfl⟩) | (go_at_call 87; refine (hsz _).mono ?_; rintro e w' ⟨rfl, rfl⟩))
    go_ret
    exact ⟨rfl, (Below.refl _ _).alloc (Nat.le_refl _) _⟩
  · rw [decide_eq_false h]
    have h' : ¬ (1 ≤ b ∧ b ≤ s ∧ s < b + 2 * sz a ∧ 2 * sz a - b ≤ s) := h
    clear h
    generalize sz a = z at *
    by_cases k1 : 1 ≤ b
    · by_cases k2 : b ≤ s
      · by_cases k3 : s < b + 2 * z
        · have k4 : s < 2 * z - b := by omega
          clear h'
          go_enter Try.func85, Try.ntmps85
          go_wp2_with (first | (go_at_call 52; refine (hr _).mono ?_; rintro e w' ⟨rfl, rfl⟩) | (go_at_call 87; refine (hsz _).mono ?_; rintro e w' ⟨rfl, rfl⟩))
          go_ret
          exact ⟨ret_bool (by simp; omega), (Below.refl _ _).alloc (Nat.le_refl _) _⟩
        · clear h'
          go_enter Try.func85, Try.ntmps85
          go_wp2_with (first | (go_at_call 52; refine (hr _).mono ?_; rintro e w' ⟨rfl, rfl⟩) | (go_at_call 87; refine (hsz _).mono ?_; rintro e w' ⟨rfl, rfl⟩))
          go_ret
          exact ⟨rfl, (Below.refl _ _).alloc (Nat.le_refl _) _⟩
      · clear h'
        go_enter Try.func85, Try.ntmps85
        go_wp2_with (first | (go_at_call 52; refine (hr _).mono ?_; rintro e w' ⟨rfl, rfl⟩) | (go_at_call 87; refine (hsz _).mono ?_; rintro e w' ⟨rfl, rfl⟩))
        go_ret
        exact ⟨rfl, (Below.refl _ _).alloc (Nat.le_refl _) _⟩
    · clear h'
      go_enter Try.func85, Try.ntmps85
      go_wp2_with (first | (go_at_call 52; refine (hr _).mono ?_; rintro e w' ⟨rfl, rfl⟩) | (go_at_call 87; refine (hsz _).mono ?_; rintro e w' ⟨rfl, rfl⟩))
      go_ret
      exact ⟨rfl, (Below.refl _ _).alloc (Nat.le_refl _) _⟩

set_option maxHeartbeats 2000000 in
theorem rnext_case (a b c d s z p low m : Int) (w : World) (hb1 : -1073741824 ≤ b) (hb2 : b ≤ 1073741824) (hc1 : -1073741824 ≤ c) (hc2 : c ≤ 1073741824)
    (hs1 : 0 ≤ s) (hs2 : s ≤ 1073741824) (hT1 : -2147483648 ≤ low) (hT2 : low ≤ 1073741824) (hT : (s < z → low = -z) ∧ (z ≤ s → low = s - 2 * z))
    (hdd : b * b - 4 * a * c = d) (g1 : 0 ≤ b * b) (g2 : b * b ≤ 1152921504606846976) (g3 : -4611686018427387904 ≤ 4 * a * c) (g4 : 4 * a * c ≤ 4611686018427387904) (g5 : -1073741824 ≤ a) (g6 : a ≤ 1073741824)
    (hr : ∀ W, Calls Try.prog 52 #[.int .i64 d] W fun e w' => e = .returned (.int .i64 s) ∧ W = w')
    (hz : ∀ W, Calls Try.prog 87 #[.int .i64 c] W fun e w' => e = .returned (.int .i64 z) ∧ W = w') (hz1 : 1 ≤ z) (hz2 : z ≤ 1073741824)
    (hm : ((-b - low).tmod (2 * z) ≤ 0 → (-b - low).tmod (2 * z) + 2 * z = m ∧ -(2 * z) < (-b - low).tmod (2 * z)) ∧ (0 < (-b - low).tmod (2 * z) → (-b - low).tmod (2 * z) = m ∧ (-b - low).tmod (2 * z) < 2 * z)) (hm1 : 0 ≤ m) (hm2 : m ≤ 2147483648) (hp : m + low = p)
    (hp1 : -1073741824 ≤ p) (hp2 : p ≤ 1073741824) (hq1 : 0 ≤ p * p) (hq2 : p * p ≤ 1152921504606846976) (hd1 : 0 ≤ d) (hd2 : d ≤ 1152921504606846976)
    (hc4 : (4 * c == 0) = false) (hc2' : (2 * c == 0) = false) :
    Calls Try.prog 54 #[.agg #[.int .i64 a, .int .i64 b, .int .i64 c]] w fun e w' =>
      e = .returned (.tuple #[.agg #[.int .i64 c, .int .i64 p, .int .i64 ((p * p - d).tdiv (4 * c))], .agg #[.int .i64 0, .int .i64 (-1), .int .i64 1, .int .i64 ((b + p).tdiv (2 * c))]]) ∧ Below w.heap.size w w' := by
  have HT := Lib.hid hT
  have HM := Lib.hid hm
  have HP := Lib.hid hp
  clear hT hm hp
  go_enter Try.func54, Try.ntmps54
  go_upto_if 32 with (first | (go_at_call 52; refine (hr _).mono ?_; rintro e w' ⟨rfl, rfl⟩) | (go_at_call 87; refine (hz _).mono ?_; rintro e w' ⟨rfl, rfl⟩))
  go_cut [4, 6, 7] (fun t u v wc => t = .int .i64 d ∧ u = .int .i64 z ∧ v = .int .i64 low ∧ wc = ((w.alloc (Obj.cells #[Value.int IntKind.i64 a, Value.int IntKind.i64 b, Value.int IntKind.i64 c] 23)).alloc (Obj.cells #[Value.int IntKind.i64 0, Value.int IntKind.i64 0, Value.int IntKind.i64 0] 23)).alloc (Obj.cells #[Value.int IntKind.i64 0, Value.int IntKind.i64 0, Value.int IntKind.i64 0, Value.int IntKind.i64 0] 35))
  case first =>
    by_cases hx : s < z
    · go_wp2
      go_meet
      exact ⟨rfl, rfl, by rw [HT.out.1 hx], rfl⟩
    · go_wp2
      go_meet
      exact ⟨rfl, rfl, by rw [HT.out.2 (by omega)], rfl⟩
  case rest =>
    obtain ⟨rfl, rfl, rfl, rfl⟩ := hcut
    go_upto_if 44 with fail
    go_cut [8] (fun v wc => v = .int .i64 m ∧ wc = ((w.alloc (Obj.cells #[Value.int IntKind.i64 a, Value.int IntKind.i64 b, Value.int IntKind.i64 c] 23)).alloc (Obj.cells #[Value.int IntKind.i64 0, Value.int IntKind.i64 0, Value.int IntKind.i64 0] 23)).alloc (Obj.cells #[Value.int IntKind.i64 0, Value.int IntKind.i64 0, Value.int IntKind.i64 0, Value.int IntKind.i64 0] 35))
    case first =>
      by_cases hx : (-b - low).tmod (2 * z) ≤ 0
      · have hy := (HM.out.1 hx).2
        go_wp2
        go_meet
        exact ⟨by rw [(HM.out.1 hx).1], rfl⟩
      · have hy := (HM.out.2 (by omega)).2
        go_wp2
        go_meet
        exact ⟨by rw [(HM.out.2 (by omega)).1], rfl⟩
    case rest =>
      obtain ⟨rfl, rfl⟩ := hcut
      have hp := HP.out
      have e1 : IntKind.i64.wrap (p * p) = p * p := wrapI _ (by omega) (by omega)
      have e2 : IntKind.i64.wrap (p * p - d) = p * p - d := wrapI _ (by omega) (by omega)
      have e3 : IntKind.i64.wrap (4 * c) = 4 * c := wrapI _ (by omega) (by omega)
      have e4 : IntKind.i64.wrap (2 * c) = 2 * c := wrapI _ (by omega) (by omega)
      have e5 : IntKind.i64.wrap (b + p) = b + p := wrapI _ (by omega) (by omega)
      have n4 : (4 * c = 0) = False := by simpa using hc4
      have n2 : (2 * c = 0) = False := by simpa using hc2'
      have b1 := tdiv_bound (p * p - d) (4 * c) 1152921504606846976 (by omega) (by omega)
      have b2 := tdiv_bound (b + p) (2 * c) 2147483648 (by omega) (by omega)
      obtain ⟨b11, b12⟩ := b1
      obtain ⟨b21, b22⟩ := b2
      clear hdd
      go_wp2
      go_region
      go_wp2
      refine bodyPost_ret (v := .tuple #[.agg #[.int .i64 c, .int .i64 p, .int .i64 ((p * p - d).tdiv (4 * c))], .agg #[.int .i64 0, .int .i64 (-1), .int .i64 1, .int .i64 ((b + p).tdiv (2 * c))]]) (by simp [results, Try.results54, go_sem]) rfl ⟨rfl, ?_⟩
      exact ((((Below.refl _ _).alloc (Nat.le_refl _) _).alloc (by simp) _).alloc (by simp; omega) _).drew

theorem rnext_any (f : Bin) (d s : Int) (w : World) (hw : Within 1073741824 f) (h : Cross d s) (hd : d < 1152921504606846976) (hf : f.disc = d) :
    Calls Try.prog 54 #[.agg #[.int .i64 f.a, .int .i64 f.b, .int .i64 f.c]] w fun e w' =>
      e = .returned (.tuple #[.agg #[.int .i64 (nxt d s f).a, .int .i64 (nxt d s f).b, .int .i64 (nxt d s f).c], .agg #[.int .i64 0, .int .i64 (-1), .int .i64 1, .int .i64 (turnN s f)]]) ∧ Below w.heap.size w w' := by
  have hc0 := h.c_ne hf
  have hp := sz_pos hc0
  have hl := sz_le hw.c
  have hs : s < 1073741824 := lt_of_mul_self_lt (by omega) (by have := h.lt; omega)
  have hn := (nxt_within h hs hf hw).b
  change _ ≤ nb s f ∧ nb s f ≤ _ at hn
  have hsq : nb s f * nb s f ≤ 1073741824 * 1073741824 := by
    rw [← sz_mul_self (nb s f)]; exact mul_self_le (sz_nonneg _) (sz_le hn)
  have hpos := h.spos
  have hm0 := Int.emod_nonneg (top s f + f.b) (b := 2 * sz f.c) (by omega)
  have hm1 := Int.emod_lt_of_pos (top s f + f.b) (b := 2 * sz f.c) (by omega)
  have hb := hw.b
  have htop : (s < sz f.c → top s f = sz f.c) ∧ (sz f.c ≤ s → top s f = s) := by unfold top; constructor <;> intro _ <;> split <;> omega
  -- from above: m = 2|c| - (top + b) mod 2|c|, low = top - 2|c|
  refine rnext_case f.a f.b f.c d s (sz f.c) (nb s f) (top s f - 2 * sz f.c) (2 * sz f.c - (top s f + f.b) % (2 * sz f.c)) w hb.1 hb.2 hw.c.1 hw.c.2 (by omega) (by omega) ?_ ?_ ?_ hf hw.bb.1 hw.bb.2 hw.ac.1 hw.ac.2 hw.a.1 hw.a.2 (fun W => rroot_any d s W (by have := h.pos; omega) (by omega) h.root) (fun W => rsize_any f.c W (by have := hw.c; omega) (by have := hw.c; omega)) (by omega) (by omega) ?_ (by omega) (by omega) ?_ hn.1 hn.2 (sq_nonneg _) hsq (by have := h.pos; omega) (by omega) (by simpa using by omega) (by simpa using by omega)
  · unfold top; split <;> omega
  · unfold top; split <;> omega
  · constructor
    · intro hx; rw [htop.1 hx]; omega
    · intro hx; rw [htop.2 hx]
  · -- the rest of -(x) + 2|c|
    generalize hX : top s f + f.b = X at *
    have e : -f.b - (top s f - 2 * sz f.c) = -X + 2 * sz f.c := by omega
    rw [e]
    generalize sz f.c = z at *
    have q := rest_of (-X + 2 * z) (2 * z) (by omega)
    have q1 : (-X + 2 * z) % (2 * z) = (-X) % (2 * z) := by rw [Int.add_emod_right]
    rw [q1] at q
    have r0 := Int.emod_nonneg (-X) (b := 2 * z) (by omega)
    have r1 := Int.emod_lt_of_pos (-X) (b := 2 * z) (by omega)
    have r2 : (X % (2 * z) + (-X) % (2 * z)) % (2 * z) = 0 := by rw [← Int.add_emod, Int.add_right_neg]; exact Int.zero_emod _
    have r3 : X % (2 * z) + (-X) % (2 * z) = 0 ∨ X % (2 * z) + (-X) % (2 * z) = 2 * z := by
      by_cases hlt : X % (2 * z) + (-X) % (2 * z) < 2 * z
      · rw [Int.emod_eq_of_lt (by omega) hlt] at r2; exact .inl r2
      · right
        have : (X % (2 * z) + (-X) % (2 * z) - 2 * z) % (2 * z) = 0 := by rw [Int.sub_emod_right]; exact r2
        rw [Int.emod_eq_of_lt (by omega) (by omega)] at this; omega
    generalize (-X + 2 * z).tmod (2 * z) = t at *
    generalize (-X) % (2 * z) = u at *
    generalize X % (2 * z) = v at *
    constructor <;> intro hh
    · by_cases ht : t < 0
      · have := q.1 ht; omega
      · have := q.2 (by omega); omega
    · have := q.2 (by omega); omega
  · show _ = top s f - (top s f + f.b) % (2 * sz f.c)
    omega

end Go.Proofs.Ytljhbjkdifmonaa
