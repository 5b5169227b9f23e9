/- For every input the law FnExactMemNew answers true, and each argument reads afterwards as it read before. No condition. -/
import Derived.Test.YtopikhjcbcpiaaaRows
import Derived.WalkKit
import Derived.ProofKit
import Derived.OpenShut
import Derived.ShutString
import Derived.ChangeOld
import Derived.Below
import Derived.SizedLaws
import Derived.Test.YtopikhjcbcpiaaaMnw0
import Derived.Test.YtopikhjcbcpiaaaMnw1
import Derived.Test.YtopikhjcbcpiaaaMnw2
import Derived.Test.YtopikhjcbcpiaaaMnw3
import Derived.Test.YtopikhjcbcpiaaaMnw4
import Derived.Test.YtopikhjcbcpiaaaMnw5
import Derived.Test.YtopikhjcbcpiaaaMnw6
import Derived.Test.YtopikhjcbcpiaaaMnw7
import Derived.Test.YtopikhjcbcpiaaaMnw8
import Derived.Test.YtopikhjcbcpiaaaMnw9
import Derived.Test.YtopikhjcbcpiaaaMnw10
import Derived.Test.YtopikhjcbcpiaaaMnw11
import Derived.Test.YtopikhjcbcpiaaaMnw12
import Derived.Test.YtopikhjcbcpiaaaMnw13
import Derived.Test.YtopikhjcbcpiaaaMnw14
namespace Go.Proofs.Ytopikhjcbcpiaaa.fnExactMemNew
open Go.ChangeShapes Go.WideShapes Go.ChangeAt Go.RowKit Go.Proofs.YtopikhjcbcpiaaaW.PrintWords Go.Proofs.YtopikhjcbcpiaaaX
open Go.ChangeMaps (open_string shut_string)
theorem own : ownKnob Try.prog.godebug = none := by kernel_rfl
theorem laidOut : laidOutB Try.prog = true := by kernel_rfl
set_option maxRecDepth 100000 in
theorem lifted (os : Os) (started : os.Started) (H : Type) (enc : TypeId × Value → H) :
    ReturnsInHanded {} Try.checked os 8 .any (Rows.fnExactMemNewSpec.pre6 enc Try.prog Try.f8 Rows.fnExactMemNewRow.domain false) (Rows.fnExactMemNewSpec.post enc Try.prog Try.f8 false true false false) := by
  refine returnsInHanded_of_change_sized (C := Try.checked) own started (by kernel_rfl) Try.func8
    (ChangeSpec.witness6 (enc := enc) (C := Try.checked) false ⟨#[], #[.agg #[.slice none 0 0, .int .i64 0], .int .i64 0], []⟩ 8 (by kernel_rfl) (by kernel_rfl) (by kernel_rfl) (by kernel_rfl)) ?_
  intro W base args ds gs before hval0 hW hcnd hsz0 _
  have hval : ∀ (j : Nat) t v, Try.f8.params[j]? = some t → args[j]? = some v → Value.okWide Try.prog W .any base t v := hval0
  have hW' := hW
  obtain ⟨p, q, hA0, hV, rfl, hfz, hnd⟩ := hW
  have hA : DataW.TrodAll enc Try.prog W 0 (fun _ => true) true Try.f8.params.toList args.toList ds p := hA0
  rw [Try.params8] at hA hval
  obtain ⟨v0, vs0, d0, ds0, p0, q0, hargs, rfl, rfl, h0, r0⟩ := trodAll_cons hA
  obtain ⟨v1, vs1, d1, ds1, p1, q1, rfl, rfl, rfl, h1, r1⟩ := trodAll_cons r0
  obtain ⟨rfl, rfl, rfl⟩ := trodAll_nil r1
  obtain rfl : args = #[v0, v1] := by cases args; simp_all
  obtain ⟨rfl, rfl⟩ := trodVars_none hV
  have k0 := h0
  have lt0 : ∀ x ∈ p0, x.block < W.heap.size := by obtain ⟨m, hm⟩ := k0; exact DataW.trod_lt m _ _ _ hm
  obtain ⟨a0, cs0, rfl, K0, o0⟩ := Opens.agg Q.opens58 Try.underlying58 (hval 0 58 v0 rfl rfl) h0
  obtain ⟨A0_0, c0_0, rfl, l0_0, g0_0⟩ := Q.k58_open K0
  obtain ⟨a1, rfl, rfl, rfl, o1⟩ := open_int Try.underlying3 (hval 1 3 v1 rfl rfl) h1
  clear hA0 hval0 hsz0
  refine (Q.laws_FnExactMemNew.holds A0_0 c0_0 a0.f0 a0.f1 a1 W g0_0 l0_0 o0 o1).mono fun e W' ⟨he, bel⟩ => ?_
  subst he
  exact ⟨_, rfl, _, _, _, [], _, [], hW', trodAll_mk1 (shut_bool Try.underlying4 _), (trodAll_cons_mk (Below.trod laidOut (by kernel_rfl) (of_decide_eq_true (by kernel_rfl)) k0 bel lt0) (trodAll_cons_mk (shut_int Try.underlying3 o1) trodAll_mk0)), rfl, bel.frame _, fun h => by cases h⟩
theorem over : Rows.fnExactMemNewRow.holds Try.pinned (OpenSpec.ofChange Rows.fnExactMemNewSpec) :=
  OpenClaim.holds_of_wide 8 Try.f8 rfl rfl rfl rfl rfl rfl rfl ⟨rfl, rfl, rfl, rfl, rfl⟩ rfl rfl rfl rfl rfl (by kernel_rfl) Try.func8 (by kernel_rfl)
    (of_decide_eq_true (by kernel_rfl)) (by unfold Func.isWrapper; first | (rw [if_pos (by decide +kernel)]; kernel_rfl) | (rw [if_neg (by decide +kernel)]; exact ⟨rfl, rfl⟩))
    (fun os started H enc _ => lifted os started H enc)
theorem proved : Rows.FnExactMemNewSaid := over
end Go.Proofs.Ytopikhjcbcpiaaa.fnExactMemNew
namespace Go.Proofs.Ytopikhjcbcpiaaa
/-- The row, under a short name, for the claim. -/
theorem fnExactMemNew_holds : Rows.FnExactMemNewSaid := fnExactMemNew.proved
end Go.Proofs.Ytopikhjcbcpiaaa
