/- Part 16 of the steps by which the law is shown: what each function of the program, of the reference and of the law computes. No condition. -/
import Derived.Test.YtopikhjcbcpiaaaGreatFin0
import Derived.Test.YtopikhjcbcpiaaaGreatFin14
import Derived.Test.YtopikhjcbcpiaaaGreatFin15
section
/- The plain part of the law about Finished: both sides answer the same, and the machine is as it was. -/
namespace Go.Proofs.YtopikhjcbcpiaaaGreat.Q
open Go.RowKit Go.Proofs.YtopikhjcbcpiaaaGreatW.PrintWords Go.Proofs.YtopikhjcbcpiaaaGreatX
def doneB (x : S82) : Bool := decide (x.f1 = (x.f0.length : Int))
theorem ev_impl_Finished {ws : List S39} {ds : List S52} {ts : List S82} {cs : List S134} {ord held : List Int} (F : FitM ws ds ts cs ord held) (time st : Int) :
    Ev (fun k => impl_Finished.f k ws ds ts time cs ord held st) (machB ws ds ts time cs ord held st && ts.all doneB) := by
  have h1 : impl_Finished_1_any.f ts = some (ts.any fun x => !doneB x) := by
    unfold impl_Finished_1_any.f
    refine any_eq _ (fun x _ => ?_)
    simp only [impl_Finished_1.f, impl_ThreadDone.f, Option.bind_some, Option.some.injEq]
    unfold doneB
    rw [Bool.eq_iff_iff]
    simp
  have e1 : ts.all doneB = !(ts.any fun x => !doneB x) := by simp [List.all_eq_not_any_not]
  unfold impl_Finished.f
  refine Ev.bind (ev_impl_MachineOk F time st) ?_
  simp only [h1, Option.bind_some]
  cases machB ws ds ts time cs ord held st with
  | false => exact ev_neg (by simp) (Ev.now _)
  | true => exact ev_pos rfl (ev_to (Ev.now _) (by rw [e1]; rfl))
theorem ev_spec_Finished {ws : List S39} {ds : List S52} {ts : List S82} {cs : List S134} {ord held : List Int} (F : FitM ws ds ts cs ord held) (time st : Int) :
    Ev (fun k => spec_Finished.f k ws ds ts time cs ord held st) (machB ws ds ts time cs ord held st && ts.all doneB) := by
  have ht := F.t
  have L : Ev (fun k => spec_Finished.l0 k 0 ws ds ts time cs ord held st) (ts.all doneB) := by
    refine ev_to (ev_all (g := fun k i => spec_Finished.l0 k i ws ds ts time cs ord held st) ts z82 doneB true (fun i hi => ?_) ?_) (by simp)
    · have e : rd_T82 ts (i : Int) = ts.getD i z82 := rfl
      generalize ts.getD i z82 = x at e ⊢
      unfold doneB
      by_cases h : x.f1 = (x.f0.length : Int)
      · refine ⟨fun _ r hr => ?_, (fun hq => by rw [decide_eq_true h] at hq; cases hq)⟩
        refine Ev.step (fun k => ?_) hr
        simp only [spec_Finished.l0, e, spec_ThreadDone.f, Option.bind_some]
        rw [if_pos (by omega), if_pos (by omega), if_pos (beq_iff_eq.2 h), wrap_succ hi (by omega)]
      · refine ⟨(fun hq => by rw [decide_eq_false h] at hq; cases hq), fun _ => ev_succ (fun k => ?_)⟩
        simp only [spec_Finished.l0, e, spec_ThreadDone.f, Option.bind_some]
        rw [if_pos (by omega), if_pos (by omega), if_neg (by rw [beq_iff_eq]; exact h)]
    · refine ev_succ (fun k => ?_)
      simp only [spec_Finished.l0]
      rw [if_neg (by omega)]
  unfold spec_Finished.f
  refine Ev.bind (ev_spec_MachineOk F time st) ?_
  cases machB ws ds ts time cs ord held st with
  | false => exact ev_neg (by simp) (Ev.now _)
  | true => exact ev_pos rfl (ev_to L (by simp))
end Go.Proofs.YtopikhjcbcpiaaaGreat.Q
namespace Go.Proofs.YtopikhjcbcpiaaaGreat.Pure
open Go.RowKit Go.Proofs.YtopikhjcbcpiaaaGreat.Q Go.Proofs.YtopikhjcbcpiaaaGreatW.PrintWords Go.Proofs.YtopikhjcbcpiaaaGreatX
theorem FnExactFinished : laws_FnExactFinished.Pure := by
  intro x ok
  suffices h : Ev (fun k => laws_FnExactFinished.f k x.f0.f0 x.f0.f1 x.f1 x.f2 x.f3 x.f4 x.f5.f0 x.f5.f1) true by
    obtain ⟨n, hn⟩ := h
    exact ⟨n, hn n (Nat.le_refl _)⟩
  obtain ⟨r, hr, hc⟩ := szMachine_ok x ok
  unfold laws_FnExactFinished.f
  refine Ev.bind hr ?_
  by_cases hn : r < 0
  · exact ev_pos hn (Ev.now _)
  · have F := hc.resolve_left hn
    have M := fit_machine x F
    have T := ev_toMachine x F
    refine ev_neg hn (Ev.bind T (Ev.bind (ev_spec_Finished M x.f2 x.f5.f1) (Ev.bind T (Ev.bind (ev_impl_Finished M x.f2 x.f5.f1) (ev_neg (by simp) (Ev.bind T (Ev.bind (ev_eqMachine x F x.f2 x.f5.f1) (ev_pos rfl (Ev.now _)))))))))
end Go.Proofs.YtopikhjcbcpiaaaGreat.Pure
end
