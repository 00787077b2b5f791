/- The row of CyclePlaces: for every input the law returns true, and its arguments read as they did. -/
import Derived.Test.YtljhbjkdifmonaaRows
import Derived.Test.YtljhbjkdifmonaaI5
import Derived.WalkKit
import Derived.ProofKit
import Derived.OpenShut
import Derived.ShutString
import Derived.ChangeOld
import Derived.Below
import Derived.SizedLaws
import Derived.Lib.SmallJoins
namespace Go.Proofs.Ytljhbjkdifmonaa.cyclePlaces
open Go.ChangeShapes Go.WideShapes Go.ChangeAt Go.RowKit Go.Joins
theorem own : ownKnob Try.prog.godebug = none := by kernel_rfl
theorem int64_trod {H : Type} (enc : TypeId × Value → H) (W : World) (base : Nat) (a : Int) (h : (Lit.int .i64 a).wf = true) : DataW.trod enc Try.prog W base (fun _ => true) true 1 2 [.int .i64 a] = some (.lit (.int .i64 a), []) := by simp [DataW.trod, Try.underlying2, h]
theorem cells23 : Try.prog.cellsOf 23 = 3 := by kernel_rfl
set_option maxRecDepth 100000 in
theorem lifted (os : Os) (started : os.Started) (H : Type) (enc : TypeId × Value → H) :
    ReturnsInHanded {} Try.checked os 5 .any (Rows.cyclePlacesSpec.pre6 enc Try.prog Try.f5 Rows.cyclePlacesRow.domain false) (Rows.cyclePlacesSpec.post enc Try.prog Try.f5 false true false false) := by
  refine returnsInHanded_of_change (C := Try.checked) own started (by kernel_rfl) Try.func5
    (ChangeSpec.witness6 (enc := enc) (C := Try.checked) false ⟨#[], #[.agg #[.int .i64 0, .int .i64 0, .int .i64 0], .agg #[.int .i64 0, .int .i64 0, .int .i64 0]], []⟩ 8 (by kernel_rfl) (by kernel_rfl) (by kernel_rfl) (by kernel_rfl)) ?_
  intro W base args ds gs before hval0 hW hcnd _
  have hval : ∀ (j : Nat) t v, Try.f5.params[j]? = some t → args[j]? = some v → Value.okWide Try.prog W .any base t v := hval0
  have hW' := hW
  obtain ⟨p, q, hA0, hV, rfl, hfz, hnd⟩ := hW
  have hA : DataW.TrodAll enc Try.prog W 0 (fun _ => true) true Try.f5.params.toList args.toList ds p := hA0
  rw [Try.params5] at hA hval
  obtain ⟨v0, vs0, d0, ds0, p0, q0, hargs, rfl, rfl, h0, r0⟩ := trodAll_cons hA
  obtain ⟨v1, vs1, d1, ds1, p1, q1, rfl, rfl, rfl, h1, r1⟩ := trodAll_cons r0
  obtain ⟨rfl, rfl, rfl⟩ := trodAll_nil r1
  obtain rfl : args = #[v0, v1] := by cases args; simp_all
  obtain ⟨rfl, rfl⟩ := trodVars_none hV
  obtain ⟨c00, c01, c02, y00, y01, y02, m0, rfl, rfl, rfl, hy00, hy01, hy02⟩ := open_agg3 Try.underlying23 (by kernel_rfl) cells23 (hval 0 23 v0 rfl rfl) h0
  obtain ⟨a00, e00, f00, w00⟩ := DataW.trod_int Try.underlying2 hy00
  obtain ⟨a01, e01, f01, w01⟩ := DataW.trod_int Try.underlying2 hy01
  obtain ⟨a02, e02, f02, w02⟩ := DataW.trod_int Try.underlying2 hy02
  simp at e00 f00; subst e00; obtain ⟨_, _⟩ := y00; simp at f00; obtain ⟨rfl, rfl⟩ := f00
  simp at e01 f01; subst e01; obtain ⟨_, _⟩ := y01; simp at f01; obtain ⟨rfl, rfl⟩ := f01
  simp at e02 f02; subst e02; obtain ⟨_, _⟩ := y02; simp at f02; obtain ⟨rfl, rfl⟩ := f02
  obtain ⟨c10, c11, c12, y10, y11, y12, m1, rfl, rfl, rfl, hy10, hy11, hy12⟩ := open_agg3 Try.underlying23 (by kernel_rfl) cells23 (hval 1 23 v1 rfl rfl) h1
  obtain ⟨a10, e10, f10, w10⟩ := DataW.trod_int Try.underlying2 hy10
  obtain ⟨a11, e11, f11, w11⟩ := DataW.trod_int Try.underlying2 hy11
  obtain ⟨a12, e12, f12, w12⟩ := DataW.trod_int Try.underlying2 hy12
  simp at e10 f10; subst e10; obtain ⟨_, _⟩ := y10; simp at f10; obtain ⟨rfl, rfl⟩ := f10
  simp at e11 f11; subst e11; obtain ⟨_, _⟩ := y11; simp at f11; obtain ⟨rfl, rfl⟩ := f11
  simp at e12 f12; subst e12; obtain ⟨_, _⟩ := y12; simp at f12; obtain ⟨rfl, rfl⟩ := f12
  clear hA0 hval0
  refine (law5' a00 a01 a02 a10 a11 a12 W w00 w01 w02 w10 w11 w12).mono fun e W' ⟨he, bel⟩ => ?_
  subst he
  exact ⟨_, rfl, _, _, _, [], _, [], hW', trodAll_mk1 (shut_bool Try.underlying4 _), (trodAll_cons_mk (shut_agg3 (y0 := (.lit (.int .i64 a00), [])) (y1 := (.lit (.int .i64 a01), [])) (y2 := (.lit (.int .i64 a02), [])) Try.underlying23 (by kernel_rfl) cells23 ⟨1, int64_trod enc W' 0 a00 w00⟩ ⟨1, int64_trod enc W' 0 a01 w01⟩ ⟨1, int64_trod enc W' 0 a02 w02⟩) (trodAll_cons_mk (shut_agg3 (y0 := (.lit (.int .i64 a10), [])) (y1 := (.lit (.int .i64 a11), [])) (y2 := (.lit (.int .i64 a12), [])) Try.underlying23 (by kernel_rfl) cells23 ⟨1, int64_trod enc W' 0 a10 w10⟩ ⟨1, int64_trod enc W' 0 a11 w11⟩ ⟨1, int64_trod enc W' 0 a12 w12⟩) trodAll_mk0)), rfl, bel.frame _, fun h => by cases h⟩
theorem over : Rows.cyclePlacesRow.holds Try.pinned (OpenSpec.ofChange Rows.cyclePlacesSpec) :=
  OpenClaim.holds_of_wide 5 Try.f5 rfl rfl rfl rfl rfl rfl rfl ⟨rfl, rfl, rfl, rfl, rfl⟩ rfl rfl rfl rfl rfl (by kernel_rfl) Try.func5 (by kernel_rfl)
    (of_decide_eq_true (by kernel_rfl)) (by unfold Func.isWrapper; first | (rw [if_pos (by decide +kernel)]; kernel_rfl) | (rw [if_neg (by decide +kernel)]; exact ⟨rfl, rfl⟩))
    (fun os started H enc _ => lifted os started H enc)
theorem proved : Rows.CyclePlacesSaid := over
#print axioms proved
end Go.Proofs.Ytljhbjkdifmonaa.cyclePlaces
namespace Go.Proofs.Ytljhbjkdifmonaa
/-- The row, under a short name, for the claim. -/
theorem cyclePlaces_holds : Rows.CyclePlacesSaid := cyclePlaces.proved
end Go.Proofs.Ytljhbjkdifmonaa

