/- Part 15 of the steps by which the law is shown: what each function of the program, of the reference and of the law computes. No condition. -/
import Derived.Test.YtopikhjcbcpiaaaBgn0
import Derived.Test.YtopikhjcbcpiaaaBgn4
import Derived.Test.YtopikhjcbcpiaaaBgn14
section
/- The law about Begin answers true at every input: both sides do the same, what is marked stays marked. -/
namespace Go.Proofs.Ytopikhjcbcpiaaa.Q
open Go.RowKit Go.Proofs.YtopikhjcbcpiaaaW.PrintWords Go.Proofs.YtopikhjcbcpiaaaX
theorem eqHelp_refl (a b c d : Int) : laws_eqHelp.f a b c d a b c d = some true := by simp [laws_eqHelp.f]
theorem ev_markRes (c : Int) (l : List Int) (m : Int) (h0 : 0 ≤ m) (h1 : m ≤ 4503599627370496) (hl : l.length ≤ 1048576) : Ev (fun k => laws_markRes.f k c l m) (m + (l.length : Int), marks m 0 l.length) := Ev.bind (f := fun _ (b : Int × List Int) => some (b.1, b.2)) (ev_markIntS l m h0 h1 hl) (Ev.now _)
theorem laws_FnExactBegin.holds (A0 : Option Addr) (c0 : Nat) (l0 : List S143) (A1 : Option Addr) (c1 : Nat) (l1 : List S138) (a1 : Int) (A2 : Option Addr) (c2 : Nat) (l2 : List S168) (a3_0 : Int) (A3 : Option Addr) (c3 : Nat) (l3 : List Int) (w : World) (hr0 : Kd.C k143 w A0 l0.length l0) (hc0 : l0.length ≤ c0) (hr1 : Kd.C k138 w A1 l1.length l1) (hc1 : l1.length ≤ c1) (hr2 : Kd.C k168 w A2 l2.length l2) (hc2 : l2.length ≤ c2) (hr3 : Kd.C (Kd.int .i64) w A3 l3.length l3) (hc3 : l3.length ≤ c3)
    (ok0 : ok95 ⟨l0, l1⟩) (_ok1 : (Lit.int .i64 a1).wf = true) (ok2 : l2.length ≤ 9223372036854775807 ∧ ∀ a ∈ l2, ok168 a) (ok3 : ok62 ⟨a3_0, l3⟩) :
    Calls Try.prog 9 #[.agg #[.slice A0 l0.length c0, .slice A1 l1.length c1], .int .i64 a1, .slice A2 l2.length c2, .agg #[.int .i64 a3_0, .slice A3 l3.length c3]] w fun e w' => e = .returned (.bool true) ∧ Below w.heap.size w w' := by
  have hl0 : l0.length ≤ 9223372036854775807 := ok0.1.1
  have hl1 : l1.length ≤ 9223372036854775807 := ok0.2.1
  have ho : ∀ x ∈ l1, x.f2.length ≤ 9223372036854775807 ∧ x.f3.f1.length ≤ 9223372036854775807 := fun x hx => by
    have := ok0.2.2 x hx
    unfold ok138 ok62 at this
    exact ⟨this.2.2.1.1, this.2.2.2.2.1⟩
  have hl2 := ok2.1
  have hl3 : l3.length ≤ 9223372036854775807 := ok3.2.1
  obtain ⟨r0, ⟨K1, e1⟩, hc⟩ := szMem_ok l0 l1 hl0 hl1 ho
  rcases hc with hneg | ⟨p0, p1, q0, q1, hfd⟩
  · exact laws_FnExactBegin.out0 K1 A0 c0 l0 A1 c1 l1 a1 A2 c2 l2 a3_0 A3 c3 l3 r0 0 0 0 0 0 0 0 0 0 0 true [] [] [] [] [] [] [] [] [] [] [] [] w hr0 hc0 hr1 hc1 hr2 hc2 hr3 hc3 (e1 K1 (by omega)) (decide_eq_true hneg)
  · have e2 := szEntryS l2 r0 p0 p1 hl2
    by_cases h2 : r0 < (l2.length : Int)
    · rw [if_pos h2] at e2
      exact laws_FnExactBegin.out1 K1 A0 c0 l0 A1 c1 l1 a1 A2 c2 l2 a3_0 A3 c3 l3 r0 (-1) 0 0 0 0 0 0 0 0 0 true [] [] [] [] [] [] [] [] [] [] [] [] w hr0 hc0 hr1 hc1 hr2 hc2 hr3 hc3 (e1 K1 (by omega)) e2 (decide_eq_false (by omega)) (by decide)
    · rw [if_neg h2] at e2
      have e3 := szResD a3_0 l3 (r0 - l2.length) (by omega) (by omega) hl3
      by_cases h3 : r0 - (l2.length : Int) < (l3.length : Int)
      · rw [if_pos h3] at e3
        exact laws_FnExactBegin.out2 K1 A0 c0 l0 A1 c1 l1 a1 A2 c2 l2 a3_0 A3 c3 l3 r0 _ (-1) 0 0 0 0 0 0 0 0 true [] [] [] [] [] [] [] [] [] [] [] [] w hr0 hc0 hr1 hc1 hr2 hc2 hr3 hc3 (e1 K1 (by omega)) e2 e3 (decide_eq_false (by omega)) (decide_eq_false (by omega)) (by decide)
      · rw [if_neg h3] at e3
        have hE := fitE_cv hfd
        have w0 : (l0.map cvWord).length ≤ 1048576 := by simpa using q0
        have d0 : (l1.map cvDesc).length ≤ 1048576 := by simpa using q1
        have n2 : l2.length ≤ 1048576 := by omega
        have n3 : l3.length ≤ 1048576 := by omega
        have s0 : (l2.map cvEntry).length ≤ 1048576 := by simpa using n2
        obtain ⟨K4, e4⟩ := ev_toMem l0 l1 q0 q1 hfd
        obtain ⟨K5, e5⟩ := ev_toEntryS l2 n2
        obtain ⟨K6, e6⟩ := ev_toResD a3_0 l3 n3
        obtain ⟨rw_, rd_, h0, h1, h2', h3', b, K7, e7, hrw, hrd, hrf⟩ := begin_both (l0.map cvWord) (l1.map cvDesc) a1 (l2.map cvEntry) a3_0 l3 w0 d0 s0 n3 hE
        obtain ⟨K9, e9⟩ := ev_eqMem rw_ rd_ hrw hrd hrf
        obtain ⟨K10, e10⟩ := ev_eqMem _ _ w0 d0 hE
        obtain ⟨K12, e12⟩ := ev_eqEntryS (l2.map cvEntry) s0
        obtain ⟨K13, e13⟩ := ev_eqResD a3_0 l3 n3
        obtain ⟨K14, e14⟩ := ev_markMem _ _ w0 d0 hE
        have hp := nxD_pos (l1.map cvDesc) (1 + 3 * ((l0.map cvWord).length : Int)) (by omega)
        obtain ⟨K17, e17⟩ := ev_markMem rw_ rd_ hrw hrd hrf
        obtain ⟨K18, e18⟩ := ev_heldMem rw_ rd_ hrw hrd hrf
        have hp2 := nxD_pos rd_ (1 + 3 * (rw_.length : Int)) (by omega)
        have hub : nxD (1 + 3 * ((l0.map cvWord).length : Int)) (l1.map cvDesc) ≤ 1125899906842000 / 100 := by
          have := nxD_le (l1.map cvDesc) (1 + 3 * ((l0.map cvWord).length : Int)) hE
          omega
        obtain ⟨K15, e15⟩ := ev_markE (l2.map cvEntry) (nxD (1 + 3 * ((l0.map cvWord).length : Int)) (l1.map cvDesc)) hp (by omega) s0
        obtain ⟨K16, e16⟩ := ev_markRes a3_0 l3 (nxD (1 + 3 * ((l0.map cvWord).length : Int)) (l1.map cvDesc) + 3 * ((l2.map cvEntry).length : Int)) (by omega) (by omega) n3
        exact laws_FnExactBegin.way (K1 + K4 + K5 + K6 + K7 + K9 + K10 + K12 + K13 + K14 + K15 + K16 + K17 + K18) A0 c0 l0 A1 c1 l1 a1 A2 c2 l2 a3_0 A3 c3 l3 r0 _ _ _ _ _ _ h0 h1 h2' h3' b _ _ rw_ _ _ _ rd_ _ _ _ l3 _ w hr0 hc0 hr1 hc1 hr2 hc2 hr3 hc3
          (e1 _ (by omega)) e2 e3 (e4 _ (by omega)) (e5 _ (by omega)) (e6 _ (by omega)) (e7 _ (by omega)).1 (e7 _ (by omega)).2 (e9 _ (by omega)) (e10 _ (by omega)) (eqHelp_refl _ _ _ _) (e12 _ (by omega)) (e13 _ (by omega)) (e14 _ (by omega)) (e15 _ (by omega))
          (e16 _ (by omega)) (e17 _ (by omega)) (e18 _ (by omega)) (decide_eq_false (by omega)) (decide_eq_false (by omega)) (decide_eq_false (by omega)) (decide_eq_false (by omega)) (decide_eq_false (by omega))
end Go.Proofs.Ytopikhjcbcpiaaa.Q
end
