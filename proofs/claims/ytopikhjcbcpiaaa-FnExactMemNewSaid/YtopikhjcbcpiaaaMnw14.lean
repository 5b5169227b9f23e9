/- Part 14 of the steps by which the law is shown: what each function of the program, of the reference and of the law computes. No condition. -/
import Derived.Test.YtopikhjcbcpiaaaMnw0
import Derived.Test.YtopikhjcbcpiaaaMnw5
import Derived.Test.YtopikhjcbcpiaaaMnw13
section
/- The law about MemNew answers true at every input: both sides make the same memory, what is marked stays marked. -/
namespace Go.Proofs.Ytopikhjcbcpiaaa.Q
open Go.RowKit Go.Proofs.YtopikhjcbcpiaaaW.PrintWords Go.Proofs.YtopikhjcbcpiaaaX
theorem ev_toRows (l : List Int) (s : Int) (h : l.length ≤ 1048576) : Ev (fun k => laws_toRows.f k l s) (l, s) := Ev.bind (f := fun _ t => some (t, s)) (ev_toIntS l h) (Ev.now _)
theorem ev_eqRows (l : List Int) (s : Int) (h : l.length ≤ 1048576) : Ev (fun k => laws_eqRows.f k l s l s) true := by
  unfold laws_eqRows.f
  exact Ev.bind (ev_eqIntS l h) (ev_pos rfl (ev_pos rfl (Ev.now _)))
theorem szRows (l : List Int) (s a : Int) (h0 : 0 ≤ a) (h1 : a ≤ 1048576) (hl : l.length ≤ 9223372036854775807) : laws_szRows.f l s a = some (if a < l.length then -1 else a - l.length) := by
  unfold laws_szRows.f
  rw [szIntS l a h0 h1 hl]
  by_cases h : a < l.length
  · simp [h]
  · simp only [if_neg h, Option.bind_some]; rw [if_neg (by omega)]
theorem ev_markRows (l : List Int) (s : Int) (h : l.length ≤ 1048576) : Ev (fun k => laws_markRows.f k l s 1) (1 + (l.length : Int), marks 1 0 l.length) := Ev.bind (f := fun _ (b : Int × List Int) => some (b.1, b.2)) (ev_markIntS l 1 (by omega) (by omega) h) (Ev.now _)
theorem laws_FnExactMemNew.holds (A0 : Option Addr) (c0 : Nat) (l0 : List Int) (a0_1 a1 : Int) (w : World) (hr : Kd.C (Kd.int .i64) w A0 l0.length l0) (hc : l0.length ≤ c0) (ok0 : ok58 ⟨l0, a0_1⟩) (_ok1 : (Lit.int .i64 a1).wf = true) :
    Calls Try.prog 8 #[.agg #[.slice A0 l0.length c0, .int .i64 a0_1], .int .i64 a1] w fun e w' => e = .returned (.bool true) ∧ Below w.heap.size w w' := by
  have hl : l0.length ≤ 9223372036854775807 := ok0.1.1
  have h1 := szRows l0 a0_1 1048576 (by omega) (by omega) hl
  by_cases hs : (1048576 : Int) < l0.length
  · rw [if_pos hs] at h1
    exact laws_FnExactMemNew.out 0 A0 c0 l0 a0_1 a1 _ 0 0 true [] [] [] [] [] w hr hc h1 (by decide)
  · rw [if_neg hs] at h1
    have hl' : l0.length ≤ 1048576 := by omega
    obtain ⟨⟨ws, ds, b⟩, ⟨K3, e3⟩, ⟨K4, e4⟩, hw, hd, hf⟩ := memNew_both l0 a0_1 a1 hl'
    obtain ⟨K2, e2⟩ := ev_toRows l0 a0_1 hl'
    obtain ⟨K5, e5⟩ := ev_eqMem ws ds hw hd hf
    obtain ⟨K6, e6⟩ := ev_eqRows l0 a0_1 hl'
    obtain ⟨K7, e7⟩ := ev_markRows l0 a0_1 hl'
    obtain ⟨K8, e8⟩ := ev_markMem ws ds hw hd hf
    obtain ⟨K9, e9⟩ := ev_heldMem ws ds hw hd hf
    have hn := nxD_pos ds (1 + 3 * (ws.length : Int)) (by omega)
    exact laws_FnExactMemNew.way (K2 + K3 + K4 + K5 + K6 + K7 + K8 + K9) A0 c0 l0 a0_1 a1 _ _ _ b ws _ ds _ _ w hr hc h1 (e2 _ (by omega)) (e3 _ (by omega)) (e4 _ (by omega)) (e5 _ (by omega)) (e6 _ (by omega)) (e7 _ (by omega)) (e8 _ (by omega)) (e9 _ (by omega))
      (decide_eq_false (by omega)) (decide_eq_false (by omega)) (decide_eq_false (by omega))
end Go.Proofs.Ytopikhjcbcpiaaa.Q
end
