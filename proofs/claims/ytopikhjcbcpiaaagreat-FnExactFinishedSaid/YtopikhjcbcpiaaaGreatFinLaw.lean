/- For every input the law FnExactFinished answers true, and each argument reads afterwards as it read before. No condition. -/
import Derived.Test.YtopikhjcbcpiaaaGreatRows
import Derived.WalkKit
import Derived.ProofKit
import Derived.OpenShut
import Derived.ShutString
import Derived.ChangeOld
import Derived.Below
import Derived.SizedLaws
import Derived.Test.YtopikhjcbcpiaaaGreatFin0
import Derived.Test.YtopikhjcbcpiaaaGreatFin1
import Derived.Test.YtopikhjcbcpiaaaGreatFin2
import Derived.Test.YtopikhjcbcpiaaaGreatFin3
import Derived.Test.YtopikhjcbcpiaaaGreatFin4
import Derived.Test.YtopikhjcbcpiaaaGreatFin5
import Derived.Test.YtopikhjcbcpiaaaGreatFin6
import Derived.Test.YtopikhjcbcpiaaaGreatFin7
import Derived.Test.YtopikhjcbcpiaaaGreatFin8
import Derived.Test.YtopikhjcbcpiaaaGreatFin9
import Derived.Test.YtopikhjcbcpiaaaGreatFin10
import Derived.Test.YtopikhjcbcpiaaaGreatFin11
import Derived.Test.YtopikhjcbcpiaaaGreatFin12
import Derived.Test.YtopikhjcbcpiaaaGreatFin13
import Derived.Test.YtopikhjcbcpiaaaGreatFin14
import Derived.Test.YtopikhjcbcpiaaaGreatFin15
import Derived.Test.YtopikhjcbcpiaaaGreatFin16
namespace Go.Proofs.YtopikhjcbcpiaaaGreat.fnExactFinished
open Go.ChangeShapes Go.WideShapes Go.ChangeAt Go.RowKit Go.Proofs.YtopikhjcbcpiaaaGreatW.PrintWords Go.Proofs.YtopikhjcbcpiaaaGreatX
open Go.ChangeMaps (open_string shut_string)
theorem own : ownKnob Tryz.prog.godebug = none := by kernel_rfl
theorem laidOut : laidOutB Tryz.prog = true := by kernel_rfl
set_option maxRecDepth 100000 in
theorem lifted (os : Os) (started : os.Started) (H : Type) (enc : TypeId × Value → H) :
    ReturnsInHanded {} Tryz.checked os 6 .any (Rows.fnExactFinishedSpec.pre6 enc Tryz.prog Tryz.f6 Rows.fnExactFinishedRow.domain false) (Rows.fnExactFinishedSpec.post enc Tryz.prog Tryz.f6 false true false false) := by
  refine returnsInHanded_of_change_sized (C := Tryz.checked) own started (by kernel_rfl) Tryz.func6
    (ChangeSpec.witness6 (enc := enc) (C := Tryz.checked) false ⟨#[], #[.agg #[.slice none 0 0, .slice none 0 0, .slice none 0 0, .int .i64 0, .slice none 0 0, .slice none 0 0, .slice none 0 0, .int .i64 0]], []⟩ 8 (by kernel_rfl) (by kernel_rfl) (by kernel_rfl) (by kernel_rfl)) ?_
  intro W base args ds gs before hval0 hW hcnd hsz0 _
  have hval : ∀ (j : Nat) t v, Tryz.f6.params[j]? = some t → args[j]? = some v → Value.okWide Tryz.prog W .any base t v := hval0
  have hW' := hW
  obtain ⟨p, q, hA0, hV, rfl, hfz, hnd⟩ := hW
  have hA : DataW.TrodAll enc Tryz.prog W 0 (fun _ => true) true Tryz.f6.params.toList args.toList ds p := hA0
  rw [Tryz.params6] at hA hval
  obtain ⟨v0, vs0, d0, ds0, p0, q0, hargs, rfl, rfl, h0, r0⟩ := trodAll_cons hA
  obtain ⟨rfl, rfl, rfl⟩ := trodAll_nil r0
  obtain rfl : args = #[v0] := by cases args; simp_all
  obtain ⟨rfl, rfl⟩ := trodVars_none hV
  have k0 := h0
  have lt0 : ∀ x ∈ p0, x.block < W.heap.size := by obtain ⟨m, hm⟩ := k0; exact DataW.trod_lt m _ _ _ hm
  obtain ⟨a0, cs0, rfl, K0, o0⟩ := Opens.agg Q.opens68 Tryz.underlying68 (hval 0 68 v0 rfl rfl) h0
  obtain ⟨A0_0, c0_0, A0_1, c0_1, A0_2, c0_2, A0_4, c0_4, A0_5, c0_5, A0_6, c0_6, rfl, l0_0, g0_0, l0_1, g0_1, l0_2, g0_2, l0_4, g0_4, l0_5, g0_5, l0_6, g0_6⟩ := Q.k68_open K0
  clear hA0 hval0 hsz0
  obtain ⟨k, hk⟩ := Pure.FnExactFinished a0 o0
  refine (Q.laws_FnExactFinished.calls k A0_0 c0_0 a0.f0.f0 A0_1 c0_1 a0.f0.f1 A0_2 c0_2 a0.f1 a0.f2 A0_4 c0_4 a0.f3 A0_5 c0_5 a0.f4 A0_6 c0_6 a0.f5.f0 a0.f5.f1 true W g0_0 l0_0 g0_1 l0_1 g0_2 l0_2 g0_4 l0_4 g0_5 l0_5 g0_6 l0_6 hk rfl).mono fun e W' ⟨he, bel⟩ => ?_
  subst he
  exact ⟨_, rfl, _, _, _, [], _, [], hW', trodAll_mk1 (shut_bool Tryz.underlying4 _), (trodAll_cons_mk (Below.trod laidOut (by kernel_rfl) (of_decide_eq_true (by kernel_rfl)) k0 bel lt0) trodAll_mk0), rfl, bel.frame _, fun h => by cases h⟩
theorem over : Rows.fnExactFinishedRow.holds Tryz.pinned (OpenSpec.ofChange Rows.fnExactFinishedSpec) :=
  OpenClaim.holds_of_wide 6 Tryz.f6 rfl rfl rfl rfl rfl rfl rfl ⟨rfl, rfl, rfl, rfl, rfl⟩ rfl rfl rfl rfl rfl (by kernel_rfl) Tryz.func6 (by kernel_rfl)
    (of_decide_eq_true (by kernel_rfl)) (by unfold Func.isWrapper; first | (rw [if_pos (by decide +kernel)]; kernel_rfl) | (rw [if_neg (by decide +kernel)]; exact ⟨rfl, rfl⟩))
    (fun os started H enc _ => lifted os started H enc)
theorem proved : Rows.FnExactFinishedSaid := over
end Go.Proofs.YtopikhjcbcpiaaaGreat.fnExactFinished
namespace Go.Proofs.YtopikhjcbcpiaaaGreat
/-- The row, under a short name, for the claim. -/
theorem fnExactFinished_holds : Rows.FnExactFinishedSaid := fnExactFinished.proved
end Go.Proofs.YtopikhjcbcpiaaaGreat
