/- For every input the law FnExactBegin answers true, and each argument reads afterwards as it read before. No condition. -/
import Derived.Test.YtopikhjcbcpiaaaRows
import Derived.WalkKit
import Derived.ProofKit
import Derived.OpenShut
import Derived.ShutString
import Derived.ChangeOld
import Derived.Below
import Derived.SizedLaws
import Derived.Test.YtopikhjcbcpiaaaBgn0
import Derived.Test.YtopikhjcbcpiaaaBgn1
import Derived.Test.YtopikhjcbcpiaaaBgn2
import Derived.Test.YtopikhjcbcpiaaaBgn3
import Derived.Test.YtopikhjcbcpiaaaBgn4
import Derived.Test.YtopikhjcbcpiaaaBgn5
import Derived.Test.YtopikhjcbcpiaaaBgn6
import Derived.Test.YtopikhjcbcpiaaaBgn7
import Derived.Test.YtopikhjcbcpiaaaBgn8
import Derived.Test.YtopikhjcbcpiaaaBgn9
import Derived.Test.YtopikhjcbcpiaaaBgn10
import Derived.Test.YtopikhjcbcpiaaaBgn11
import Derived.Test.YtopikhjcbcpiaaaBgn12
import Derived.Test.YtopikhjcbcpiaaaBgn13
import Derived.Test.YtopikhjcbcpiaaaBgn14
import Derived.Test.YtopikhjcbcpiaaaBgn15
namespace Go.Proofs.Ytopikhjcbcpiaaa.fnExactBegin
open Go.ChangeShapes Go.WideShapes Go.ChangeAt Go.RowKit Go.Proofs.YtopikhjcbcpiaaaW.PrintWords Go.Proofs.YtopikhjcbcpiaaaX
open Go.ChangeMaps (open_string shut_string)
theorem own : ownKnob Try.prog.godebug = none := by kernel_rfl
theorem laidOut : laidOutB Try.prog = true := by kernel_rfl
set_option maxRecDepth 100000 in
theorem lifted (os : Os) (started : os.Started) (H : Type) (enc : TypeId × Value → H) :
    ReturnsInHanded {} Try.checked os 9 .any (Rows.fnExactBeginSpec.pre6 enc Try.prog Try.f9 Rows.fnExactBeginRow.domain false) (Rows.fnExactBeginSpec.post enc Try.prog Try.f9 false true false false) := by
  refine returnsInHanded_of_change_sized (C := Try.checked) own started (by kernel_rfl) Try.func9
    (ChangeSpec.witness6 (enc := enc) (C := Try.checked) false ⟨#[], #[.agg #[.slice none 0 0, .slice none 0 0], .int .i64 0, .slice none 0 0, .agg #[.int .i64 0, .slice none 0 0]], []⟩ 8 (by kernel_rfl) (by kernel_rfl) (by kernel_rfl) (by kernel_rfl)) ?_
  intro W base args ds gs before hval0 hW hcnd hsz0 _
  have hval : ∀ (j : Nat) t v, Try.f9.params[j]? = some t → args[j]? = some v → Value.okWide Try.prog W .any base t v := hval0
  have hW' := hW
  obtain ⟨p, q, hA0, hV, rfl, hfz, hnd⟩ := hW
  have hA : DataW.TrodAll enc Try.prog W 0 (fun _ => true) true Try.f9.params.toList args.toList ds p := hA0
  rw [Try.params9] at hA hval
  obtain ⟨v0, vs0, d0, ds0, p0, q0, hargs, rfl, rfl, h0, r0⟩ := trodAll_cons hA
  obtain ⟨v1, vs1, d1, ds1, p1, q1, rfl, rfl, rfl, h1, r1⟩ := trodAll_cons r0
  obtain ⟨v2, vs2, d2, ds2, p2, q2, rfl, rfl, rfl, h2, r2⟩ := trodAll_cons r1
  obtain ⟨v3, vs3, d3, ds3, p3, q3, rfl, rfl, rfl, h3, r3⟩ := trodAll_cons r2
  obtain ⟨rfl, rfl, rfl⟩ := trodAll_nil r3
  obtain rfl : args = #[v0, v1, v2, v3] := by cases args; simp_all
  obtain ⟨rfl, rfl⟩ := trodVars_none hV
  have k0 := h0
  have lt0 : ∀ x ∈ p0, x.block < W.heap.size := by obtain ⟨m, hm⟩ := k0; exact DataW.trod_lt m _ _ _ hm
  obtain ⟨a0, cs0, rfl, K0, o0⟩ := Opens.agg Q.opens95 Try.underlying95 (hval 0 95 v0 rfl rfl) h0
  obtain ⟨A0_0, c0_0, A0_1, c0_1, rfl, l0_0, g0_0, l0_1, g0_1⟩ := Q.k95_open K0
  obtain ⟨a1, rfl, rfl, rfl, o1⟩ := open_int Try.underlying3 (hval 1 3 v1 rfl rfl) h1
  have k2 := h2
  have lt2 : ∀ x ∈ p2, x.block < W.heap.size := by obtain ⟨m, hm⟩ := k2; exact DataW.trod_lt m _ _ _ hm
  obtain ⟨a2, A2, c2, rfl, l2, g2, o2⟩ := Opens.arg_slice (Opens.slice Try.underlying96 (by kernel_rfl) Q.opens168) Try.underlying96 (hval 2 96 v2 rfl rfl) h2
  have k3 := h3
  have lt3 : ∀ x ∈ p3, x.block < W.heap.size := by obtain ⟨m, hm⟩ := k3; exact DataW.trod_lt m _ _ _ hm
  obtain ⟨a3, cs3, rfl, K3, o3⟩ := Opens.agg Q.opens62 Try.underlying62 (hval 3 62 v3 rfl rfl) h3
  obtain ⟨A3_1, c3_1, rfl, l3_1, g3_1⟩ := Q.k62_open K3
  clear hA0 hval0 hsz0
  refine (Q.laws_FnExactBegin.holds A0_0 c0_0 a0.f0 A0_1 c0_1 a0.f1 a1 A2 c2 a2 a3.f0 A3_1 c3_1 a3.f1 W g0_0 l0_0 g0_1 l0_1 g2 l2 g3_1 l3_1 o0 o1 o2 o3).mono fun e W' ⟨he, bel⟩ => ?_
  subst he
  exact ⟨_, rfl, _, _, _, [], _, [], hW', trodAll_mk1 (shut_bool Try.underlying4 _), (trodAll_cons_mk (Below.trod laidOut (by kernel_rfl) (of_decide_eq_true (by kernel_rfl)) k0 bel lt0) (trodAll_cons_mk (shut_int Try.underlying3 o1) (trodAll_cons_mk (Below.trod laidOut (by kernel_rfl) (of_decide_eq_true (by kernel_rfl)) k2 bel lt2) (trodAll_cons_mk (Below.trod laidOut (by kernel_rfl) (of_decide_eq_true (by kernel_rfl)) k3 bel lt3) trodAll_mk0)))), rfl, bel.frame _, fun h => by cases h⟩
theorem over : Rows.fnExactBeginRow.holds Try.pinned (OpenSpec.ofChange Rows.fnExactBeginSpec) :=
  OpenClaim.holds_of_wide 9 Try.f9 rfl rfl rfl rfl rfl rfl rfl ⟨rfl, rfl, rfl, rfl, rfl⟩ rfl rfl rfl rfl rfl (by kernel_rfl) Try.func9 (by kernel_rfl)
    (of_decide_eq_true (by kernel_rfl)) (by unfold Func.isWrapper; first | (rw [if_pos (by decide +kernel)]; kernel_rfl) | (rw [if_neg (by decide +kernel)]; exact ⟨rfl, rfl⟩))
    (fun os started H enc _ => lifted os started H enc)
theorem proved : Rows.FnExactBeginSaid := over
end Go.Proofs.Ytopikhjcbcpiaaa.fnExactBegin
namespace Go.Proofs.Ytopikhjcbcpiaaa
/-- The row, under a short name, for the claim. -/
theorem fnExactBegin_holds : Rows.FnExactBeginSaid := fnExactBegin.proved
end Go.Proofs.Ytopikhjcbcpiaaa
