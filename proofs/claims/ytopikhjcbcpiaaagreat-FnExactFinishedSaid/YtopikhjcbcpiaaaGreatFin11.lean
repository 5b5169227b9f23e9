/- Part 11 of the steps by which the law is shown: what each function of the program, of the reference and of the law computes. No condition. -/
import Derived.Test.YtopikhjcbcpiaaaGreatFin0
import Derived.Test.YtopikhjcbcpiaaaGreatFin1
import Derived.Test.YtopikhjcbcpiaaaGreatFin2
import Derived.Test.YtopikhjcbcpiaaaGreatFin4
import Derived.Test.YtopikhjcbcpiaaaGreatFin6
import Derived.Test.YtopikhjcbcpiaaaGreatFin7
import Derived.Test.YtopikhjcbcpiaaaGreatFin8
import Derived.Test.YtopikhjcbcpiaaaGreatFin9
import Derived.Test.YtopikhjcbcpiaaaGreatFin10
namespace Go.Proofs.YtopikhjcbcpiaaaGreat.Q
open Go.RowKit Go.Proofs.YtopikhjcbcpiaaaGreatW.PrintWords Go.Proofs.YtopikhjcbcpiaaaGreatW.PrintLast Go.Proofs.YtopikhjcbcpiaaaGreatW.PrintMore
attribute [local go_sem] max2_int min2_int max_two min_two max_three min_three max_four min_four   -- for this text's walks alone
set_option linter.unusedVariables false
set_option linter.unusedSimpArgs false
def spec_Finished.l0 : Nat → Int → List (S39) → List (S52) → List (S82) → Int → List (S134) → List Int → List Int → Int → Option (Bool)
 | 0, _, _, _, _, _, _, _, _, _ => none
 | k + 1, x3, x643000, x643001, x643002, x643003, x643004, x643005, x643006, x643007 => if x3 < (x643002.length : Int) then (if 0 ≤ x3 then ((spec_ThreadDone.f ((rd_T82 x643002 x3).f0) ((rd_T82 x643002 x3).f1) ((rd_T82 x643002 x3).f2) ((rd_T82 x643002 x3).f3) ((rd_T82 x643002 x3).f4)).bind fun t645 => (if t645 = true then (spec_Finished.l0 k (wrap64 (x3 + 1)) x643000 x643001 x643002 x643003 x643004 x643005 x643006 x643007) else (some false))) else (none)) else (some true)
def spec_Finished.f (k : Nat) (l0_0 : List (S39)) (l0_1 : List (S52)) (l0_2 : List (S82)) (a0_3 : Int) (l0_4 : List (S134)) (l0_5 : List Int) (l0_6 : List Int) (a0_7 : Int) : Option (Bool) := (spec_MachineOk.f k l0_0 l0_1 l0_2 a0_3 l0_4 l0_5 l0_6 a0_7).bind fun t643 => (if t643 = true then (spec_Finished.l0 k 0 l0_0 l0_1 l0_2 a0_3 l0_4 l0_5 l0_6 a0_7) else (some false))
set_option maxHeartbeats 8000000 in
set_option maxRecDepth 100000 in
theorem spec_Finished.calls (k : Nat) (A0_0 : Option Addr) (c0_0 : Nat) (l0_0 : List (S39)) (A0_1 : Option Addr) (c0_1 : Nat) (l0_1 : List (S52)) (A0_2 : Option Addr) (c0_2 : Nat) (l0_2 : List (S82)) (a0_3 : Int) (A0_4 : Option Addr) (c0_4 : Nat) (l0_4 : List (S134)) (A0_5 : Option Addr) (c0_5 : Nat) (l0_5 : List Int) (A0_6 : Option Addr) (c0_6 : Nat) (l0_6 : List Int) (a0_7 : Int) (r : Bool) (w : World) (hr0_0 : Kd.C k39 w A0_0 l0_0.length l0_0) (hc0_0 : l0_0.length ≤ c0_0) (hr0_1 : Kd.C k52 w A0_1 l0_1.length l0_1) (hc0_1 : l0_1.length ≤ c0_1) (hr0_2 : Kd.C k82 w A0_2 l0_2.length l0_2) (hc0_2 : l0_2.length ≤ c0_2) (hr0_4 : Kd.C k134 w A0_4 l0_4.length l0_4) (hc0_4 : l0_4.length ≤ c0_4) (hr0_5 : Kd.C (Kd.int .i64) w A0_5 l0_5.length l0_5) (hc0_5 : l0_5.length ≤ c0_5) (hr0_6 : Kd.C (Kd.int .i64) w A0_6 l0_6.length l0_6) (hc0_6 : l0_6.length ≤ c0_6) (h : spec_Finished.f k l0_0 l0_1 l0_2 a0_3 l0_4 l0_5 l0_6 a0_7 = some r) :
  Calls Tryz.prog 29 #[.agg #[.slice A0_0 l0_0.length c0_0, .slice A0_1 l0_1.length c0_1, .slice A0_2 l0_2.length c0_2, .int .i64 a0_3, .slice A0_4 l0_4.length c0_4, .slice A0_5 l0_5.length c0_5, .slice A0_6 l0_6.length c0_6, .int .i64 a0_7]] w fun e w' => e = .returned (.bool r) ∧ Below w.heap.size w w' := by
 have hu75 := Tryz.underlying75
 have hu82 := Tryz.underlying82
 have HR0_0 := Aside0.mk hr0_0
 have HC0_0 := Aside0.mk hc0_0
 clear hr0_0 hc0_0
 have HR0_1 := Aside0.mk hr0_1
 have HC0_1 := Aside0.mk hc0_1
 clear hr0_1 hc0_1
 have HR0_2 := Aside0.mk hr0_2
 have HC0_2 := Aside0.mk hc0_2
 clear hr0_2 hc0_2
 have HR0_4 := Aside0.mk hr0_4
 have HC0_4 := Aside0.mk hc0_4
 clear hr0_4 hc0_4
 have HR0_5 := Aside0.mk hr0_5
 have HC0_5 := Aside0.mk hc0_5
 clear hr0_5 hc0_5
 have HR0_6 := Aside0.mk hr0_6
 have HC0_6 := Aside0.mk hc0_6
 clear hr0_6 hc0_6
 have HB := Aside0.mk (Below.refl w.heap.size w)
 have H := h
 clear h
 unfold spec_Finished.f at H
 obtain ⟨t643, A2, H⟩ := bn H
 try dsimp only at H
 cases t643
 case false =>
  replace H := ipf H
  obtain rfl := oin H
  go_enter Tryz.func29, Tryz.ntmps29
  go_wp2_with (first | ((with_reducible refine gq 1 rfl ?_); refine bx0 HB (N := 1) (t := 75) ?_; clear HB; intro gb642 w16 BK642 GE642 HB; have hz17 := cs8_ BK642) | ((with_reducible refine gf 25 rfl ?_); refine gL 5 Tryz.func25 #[.agg #[.slice A0_0 l0_0.length c0_0, .slice A0_1 l0_1.length c0_1, .slice A0_2 l0_2.length c0_2, .int .i64 a0_3, .slice A0_4 l0_4.length c0_4, .slice A0_5 l0_5.length c0_5, .slice A0_6 l0_6.length c0_6, .int .i64 a0_7]] ?_; (with_reducible refine (spec_MachineOk.calls k _ _ l0_0 _ _ l0_1 _ _ l0_2 a0_3 _ _ l0_4 _ _ l0_5 _ _ l0_6 a0_7 false _ (kc HR0_0 HB) HC0_0.out (kc HR0_1 HB) HC0_1.out (kc HR0_2 HB) HC0_2.out (kc HR0_4 HB) HC0_4.out (kc HR0_5 HB) HC0_5.out (kc HR0_6 HB) HC0_6.out A2.out).mono ?_); rintro e w18 ⟨rfl, hb⟩; refine ⟨_, rfl, ?_⟩; replace BK642 := bb BK642 hb; replace HB := bs HB hb; (try clear hb)))
  go_ret
  exact ⟨er, tb HB⟩
 replace H := ipt H
 have H' := Aside0.mk H
 clear H
 go_enter Tryz.func29, Tryz.ntmps29
 go_wp2_with (first | ((with_reducible refine gq 1 rfl ?_); refine bx0 HB (N := 1) (t := 75) ?_; clear HB; intro gb642 w4 BK642 GE642 HB; have hz5 := cs8_ BK642) | ((with_reducible refine gf 25 rfl ?_); refine gL 5 Tryz.func25 #[.agg #[.slice A0_0 l0_0.length c0_0, .slice A0_1 l0_1.length c0_1, .slice A0_2 l0_2.length c0_2, .int .i64 a0_3, .slice A0_4 l0_4.length c0_4, .slice A0_5 l0_5.length c0_5, .slice A0_6 l0_6.length c0_6, .int .i64 a0_7]] ?_; (with_reducible refine (spec_MachineOk.calls k _ _ l0_0 _ _ l0_1 _ _ l0_2 a0_3 _ _ l0_4 _ _ l0_5 _ _ l0_6 a0_7 true _ (kc HR0_0 HB) HC0_0.out (kc HR0_1 HB) HC0_1.out (kc HR0_2 HB) HC0_2.out (kc HR0_4 HB) HC0_4.out (kc HR0_5 HB) HC0_5.out (kc HR0_6 HB) HC0_6.out A2.out).mono ?_); rintro e w6 ⟨rfl, hb⟩; refine ⟨_, rfl, ?_⟩; replace BK642 := bb BK642 hb; replace HB := bs HB hb; (try clear hb)))
 go_loopg [3] k (fun kq v3 w' => ∃ (x3_1 : Int), v3 = .int .i64 x3_1 ∧ Aside0 (spec_Finished.l0 kq x3_1 l0_0 l0_1 l0_2 a0_3 l0_4 l0_5 l0_6 a0_7 = some r) ∧ Aside0 (kq ≤ k) ∧ Aside0 (w'.heap[gb642]? = some (.cells #[(.slice A0_0 l0_0.length c0_0), (.slice A0_1 l0_1.length c0_1), (.slice A0_2 l0_2.length c0_2), .int .i64 a0_3, (.slice A0_4 l0_4.length c0_4), (.slice A0_5 l0_5.length c0_5), (.slice A0_6 l0_6.length c0_6), .int .i64 a0_7] 75 (0, 0))) ∧ Aside0 (Below w.heap.size w w'))
 case atStart => exact ⟨(0), rsd, H', ⟨Nat.le_refl _⟩, ⟨by (with_reducible repeat (first | refine blk_drewN ?_ _ | refine blk_drew ?_ | refine blk_alloc ?_ _)); exact BK642.out⟩, ⟨tb HB⟩⟩
 case round =>
  clear H'
  obtain ⟨x3_1, rfl, HA, HK1, BK642, HB⟩ := hrel
  cases gk with
  | zero => exact absurd HA.out (by simp [spec_Finished.l0])
  | succ k1 =>
   have H := HA.out
   clear HA
   simp only [spec_Finished.l0] at H
   revert H; refine icd (fun c7b0 H => ?_) fun c7b0 H => ?neg
   case neg =>
    obtain rfl := oin H
    have hz15 := cs8_ BK642
    go_wp2
    go_ret
    exact ⟨er, tb HB⟩
   obtain ⟨c8b0, H⟩ := itd H
   obtain ⟨t645, A9, H⟩ := bn H
   try dsimp only at H
   cases t645
   case false =>
    replace H := ipf H
    obtain rfl := oin H
    have hz13 := cs8_ BK642
    have p644 : 0 ≤ (x3_1 : Int) := od
    have q644 : x3_1 < (l0_2.length : Int) := od
    obtain ⟨ad644, A644_0, c644_0, A644_3, c644_3, A644_4, c644_4, e644, hx644, hl644_0, hi644_0, hl644_3, hi644_3, hl644_4, hi644_4⟩ := att82 HR0_2.out x3_1 p644 q644
    cases e644
    replace hx644 := ox5 HB hx644
    have HR644_0 := Aside0.mk hi644_0
    have HC644_0 := Aside0.mk hl644_0
    clear hi644_0 hl644_0
    have HR644_3 := Aside0.mk hi644_3
    have HC644_3 := Aside0.mk hl644_3
    clear hi644_3 hl644_3
    have HR644_4 := Aside0.mk hi644_4
    have HC644_4 := Aside0.mk hl644_4
    clear hi644_4 hl644_4
    replace p644 := eq_true p644
    replace q644 := eq_true q644
    go_wp2_with (first | ((with_reducible refine gf 52 rfl ?_); refine gL 19 Tryz.func52 #[.agg #[.slice A644_0 ((rd_T82 l0_2 x3_1).f0).length c644_0, .int .i64 ((rd_T82 l0_2 x3_1).f1), .bool ((rd_T82 l0_2 x3_1).f2), .slice A644_3 ((rd_T82 l0_2 x3_1).f3).length c644_3, .slice A644_4 ((rd_T82 l0_2 x3_1).f4).length c644_4]] ?_; (with_reducible refine (spec_ThreadDone.calls _ _ ((rd_T82 l0_2 x3_1).f0) ((rd_T82 l0_2 x3_1).f1) ((rd_T82 l0_2 x3_1).f2) _ _ ((rd_T82 l0_2 x3_1).f3) _ _ ((rd_T82 l0_2 x3_1).f4) false _ (kc HR644_0 HB) HC644_0.out (kc HR644_3 HB) HC644_3.out (kc HR644_4 HB) HC644_4.out A9.out).mono ?_); rintro e w14 ⟨rfl, hb⟩; refine ⟨_, rfl, ?_⟩; replace BK642 := bb BK642 hb; replace HB := bs HB hb; (try clear hb)))
    go_ret
    exact ⟨er, tb HB⟩
   replace H := ipt H
   have H' := Aside0.mk H
   clear H
   have hz11 := cs8_ BK642
   have p644 : 0 ≤ (x3_1 : Int) := od
   have q644 : x3_1 < (l0_2.length : Int) := od
   obtain ⟨ad644, A644_0, c644_0, A644_3, c644_3, A644_4, c644_4, e644, hx644_0, hx644_1, hx644_2, hx644_3, hx644_4, hl644_0, hi644_0, hl644_3, hi644_3, hl644_4, hi644_4⟩ := at_T82 HR0_2.out x3_1 p644 q644
   cases e644
   replace hx644_0 := ox HB hx644_0
   replace hx644_1 := ox HB hx644_1
   replace hx644_2 := ox HB hx644_2
   replace hx644_3 := ox HB hx644_3
   replace hx644_4 := ox HB hx644_4
   have HR644_0 := Aside0.mk hi644_0
   have HC644_0 := Aside0.mk hl644_0
   clear hi644_0 hl644_0
   have HR644_3 := Aside0.mk hi644_3
   have HC644_3 := Aside0.mk hl644_3
   clear hi644_3 hl644_3
   have HR644_4 := Aside0.mk hi644_4
   have HC644_4 := Aside0.mk hl644_4
   clear hi644_4 hl644_4
   replace p644 := eq_true p644
   replace q644 := eq_true q644
   go_wp2_with (first | ((with_reducible refine gf 52 rfl ?_); refine gL 19 Tryz.func52 #[.agg #[.slice A644_0 ((rd_T82 l0_2 x3_1).f0).length c644_0, .int .i64 ((rd_T82 l0_2 x3_1).f1), .bool ((rd_T82 l0_2 x3_1).f2), .slice A644_3 ((rd_T82 l0_2 x3_1).f3).length c644_3, .slice A644_4 ((rd_T82 l0_2 x3_1).f4).length c644_4]] ?_; (with_reducible refine (spec_ThreadDone.calls _ _ ((rd_T82 l0_2 x3_1).f0) ((rd_T82 l0_2 x3_1).f1) ((rd_T82 l0_2 x3_1).f2) _ _ ((rd_T82 l0_2 x3_1).f3) _ _ ((rd_T82 l0_2 x3_1).f4) true _ (kc HR644_0 HB) HC644_0.out (kc HR644_3 HB) HC644_3.out (kc HR644_4 HB) HC644_4.out A9.out).mono ?_); rintro e w12 ⟨rfl, hb⟩; refine ⟨_, rfl, ?_⟩; replace BK642 := bb BK642 hb; replace HB := bs HB hb; (try clear hb)))
   go_roundg k1
   case measure => have := HK1.out; omega
   case rel => exact ⟨(wrap64 (x3_1 + 1)), rsd, H', ⟨by have := HK1.out; omega⟩, ⟨by (with_reducible repeat (first | refine blk_drewN ?_ _ | refine blk_drew ?_ | refine blk_alloc ?_ _)); exact BK642.out⟩, ⟨tb HB⟩⟩
mutual
def impl_MachineOk.j0 : Nat → Int → Bool → List (S39) → List (S52) → List (S82) → Int → List (S134) → List Int → List Int → Int → Option (Bool)
 | 0, _, _, _, _, _, _, _, _, _, _ => none
 | k + 1, x3, x41, x494000, x494001, x494002, x494003, x494004, x494005, x494006, x494007 => if x41 = true then (some false) else (impl_MachineOk.l0 k x3 x494004 (x494004.length : Int) 0 x494000 x494001 x494002 x494003 x494004 x494005 x494006 x494007)
def impl_MachineOk.l0 : Nat → Int → List (S134) → Int → Int → List (S39) → List (S52) → List (S82) → Int → List (S134) → List Int → List Int → Int → Option (Bool)
 | 0, _, _, _, _, _, _, _, _, _, _, _, _ => none
 | k + 1, x3, x44, x45, x46, x494000, x494001, x494002, x494003, x494004, x494005, x494006, x494007 => if x46 < x45 then (if 0 ≤ x46 then (if x46 < (x44.length : Int) then ((impl_from.f ((rd_T134 x44 x46).f0) 0 (wrap64 (x3 - 1))).bind fun t499 => (if t499 = true then ((impl_OpOk.f k ((rd_T134 x44 x46).f1.f0) ((rd_T134 x44 x46).f1.f1) ((rd_T134 x44 x46).f1.f2)).bind fun t500 => (if t500 = true then ((impl_from.f ((rd_T134 x44 x46).f2) 0 x494003).bind fun t501 => (if t501 = true then ((impl_MachineOk_1.f ((rd_T134 x44 x46).f0) ((rd_T134 x44 x46).f1.f0) ((rd_T134 x44 x46).f1.f1) ((rd_T134 x44 x46).f1.f2) ((rd_T134 x44 x46).f2) ((rd_T134 x44 x46).f3) ((rd_T134 x44 x46).f4) ((rd_T134 x44 x46).f5.f0) ((rd_T134 x44 x46).f5.f1) ((rd_T134 x44 x46).f3) x494003).bind fun t502 => (if t502 = true then ((impl_MachineOk_1.f ((rd_T134 x44 x46).f0) ((rd_T134 x44 x46).f1.f0) ((rd_T134 x44 x46).f1.f1) ((rd_T134 x44 x46).f1.f2) ((rd_T134 x44 x46).f2) ((rd_T134 x44 x46).f3) ((rd_T134 x44 x46).f4) ((rd_T134 x44 x46).f5.f0) ((rd_T134 x44 x46).f5.f1) ((rd_T134 x44 x46).f4) x494003).bind fun t503 => (if t503 = true then (impl_MachineOk.l0 k x3 x44 x45 (wrap64 (x46 + 1)) x494000 x494001 x494002 x494003 x494004 x494005 x494006 x494007) else (some false))) else (some false))) else (some false))) else (some false))) else (some false))) else (none)) else (none)) else (impl_MachineOk.l1 k x3 x494002 (x494002.length : Int) 0 x494000 x494001 x494002 x494003 x494004 x494005 x494006 x494007)
def impl_MachineOk.l1 : Nat → Int → List (S82) → Int → Int → List (S39) → List (S52) → List (S82) → Int → List (S134) → List Int → List Int → Int → Option (Bool)
 | 0, _, _, _, _, _, _, _, _, _, _, _, _ => none
 | k + 1, x3, x88, x89, x90, x494000, x494001, x494002, x494003, x494004, x494005, x494006, x494007 => if x90 < x89 then (if 0 ≤ x90 then (if x90 < (x88.length : Int) then ((impl_ThreadOk.f k ((rd_T82 x88 x90).f0) ((rd_T82 x88 x90).f1) ((rd_T82 x88 x90).f2) ((rd_T82 x88 x90).f3) ((rd_T82 x88 x90).f4) x3).bind fun t507 => (if t507 = true then ((impl_callsOk.f k x494000 x494001 x494002 x494003 x494004 x494005 x494006 x494007 x90).bind fun t508 => (if t508 = true then (impl_MachineOk.l1 k x3 x88 x89 (wrap64 (x90 + 1)) x494000 x494001 x494002 x494003 x494004 x494005 x494006 x494007) else (some false))) else (some false))) else (none)) else (none)) else ((impl_orderOk.f k x494000 x494001 x494002 x494003 x494004 x494005 x494006 x494007).bind fun t504 => (some t504))
end
def impl_MachineOk.f (k : Nat) (l0_0 : List (S39)) (l0_1 : List (S52)) (l0_2 : List (S82)) (a0_3 : Int) (l0_4 : List (S134)) (l0_5 : List Int) (l0_6 : List Int) (a0_7 : Int) : Option (Bool) := (impl_MemOk.f k l0_0 l0_1).bind fun t494 => (if t494 = true then (if (l0_1.length : Int) = (l0_2.length : Int) then ((impl_from.f a0_3 0 100000).bind fun t495 => (if t495 = true then (if (l0_4.length : Int) > 40 then (impl_MachineOk.j0 k (l0_2.length : Int) true l0_0 l0_1 l0_2 a0_3 l0_4 l0_5 l0_6 a0_7) else ((impl_RowsOk.f k l0_6 a0_7).bind fun t496 => (impl_MachineOk.j0 k (l0_2.length : Int) (!t496) l0_0 l0_1 l0_2 a0_3 l0_4 l0_5 l0_6 a0_7))) else (impl_MachineOk.j0 k (l0_2.length : Int) true l0_0 l0_1 l0_2 a0_3 l0_4 l0_5 l0_6 a0_7))) else (impl_MachineOk.j0 k (l0_2.length : Int) true l0_0 l0_1 l0_2 a0_3 l0_4 l0_5 l0_6 a0_7)) else (impl_MachineOk.j0 k (l0_2.length : Int) true l0_0 l0_1 l0_2 a0_3 l0_4 l0_5 l0_6 a0_7))
set_option maxHeartbeats 8000000 in
set_option maxRecDepth 100000 in
theorem impl_MachineOk.calls (k : Nat) (A0_0 : Option Addr) (c0_0 : Nat) (l0_0 : List (S39)) (A0_1 : Option Addr) (c0_1 : Nat) (l0_1 : List (S52)) (A0_2 : Option Addr) (c0_2 : Nat) (l0_2 : List (S82)) (a0_3 : Int) (A0_4 : Option Addr) (c0_4 : Nat) (l0_4 : List (S134)) (A0_5 : Option Addr) (c0_5 : Nat) (l0_5 : List Int) (A0_6 : Option Addr) (c0_6 : Nat) (l0_6 : List Int) (a0_7 : Int) (r : Bool) (w : World) (hr0_0 : Kd.C k39 w A0_0 l0_0.length l0_0) (hc0_0 : l0_0.length ≤ c0_0) (hr0_1 : Kd.C k52 w A0_1 l0_1.length l0_1) (hc0_1 : l0_1.length ≤ c0_1) (hr0_2 : Kd.C k82 w A0_2 l0_2.length l0_2) (hc0_2 : l0_2.length ≤ c0_2) (hr0_4 : Kd.C k134 w A0_4 l0_4.length l0_4) (hc0_4 : l0_4.length ≤ c0_4) (hr0_5 : Kd.C (Kd.int .i64) w A0_5 l0_5.length l0_5) (hc0_5 : l0_5.length ≤ c0_5) (hr0_6 : Kd.C (Kd.int .i64) w A0_6 l0_6.length l0_6) (hc0_6 : l0_6.length ≤ c0_6) (h : impl_MachineOk.f k l0_0 l0_1 l0_2 a0_3 l0_4 l0_5 l0_6 a0_7 = some r) :
  Calls Tryz.prog 27 #[.agg #[.slice A0_0 l0_0.length c0_0, .slice A0_1 l0_1.length c0_1, .slice A0_2 l0_2.length c0_2, .int .i64 a0_3, .slice A0_4 l0_4.length c0_4, .slice A0_5 l0_5.length c0_5, .slice A0_6 l0_6.length c0_6, .int .i64 a0_7]] w fun e w' => e = .returned (.bool r) ∧ Below w.heap.size w w' := by
 have hu75 := Tryz.underlying75
 have hu27 := Tryz.underlying27
 have hu73 := Tryz.underlying73
 have hu134 := Tryz.underlying134
 have hu132 := Tryz.underlying132
 have hu82 := Tryz.underlying82
 have HR0_0 := Aside0.mk hr0_0
 have HC0_0 := Aside0.mk hc0_0
 clear hr0_0 hc0_0
 have HR0_1 := Aside0.mk hr0_1
 have HC0_1 := Aside0.mk hc0_1
 clear hr0_1 hc0_1
 have HR0_2 := Aside0.mk hr0_2
 have HC0_2 := Aside0.mk hc0_2
 clear hr0_2 hc0_2
 have HR0_4 := Aside0.mk hr0_4
 have HC0_4 := Aside0.mk hc0_4
 clear hr0_4 hc0_4
 have HR0_5 := Aside0.mk hr0_5
 have HC0_5 := Aside0.mk hc0_5
 clear hr0_5 hc0_5
 have HR0_6 := Aside0.mk hr0_6
 have HC0_6 := Aside0.mk hc0_6
 clear hr0_6 hc0_6
 have HB := Aside0.mk (Below.refl w.heap.size w)
 have H := h
 clear h
 unfold impl_MachineOk.f at H
 have HC2 := Aside0.mk H
 clear H
 go_enter Tryz.func27, Tryz.ntmps27
 go_upto_region 2 with (first | ((with_reducible refine gq 1 rfl ?_); (try (refine gate_guard (by rfl) ?_; dsimp only)); refine bx0 HB (N := 1) (t := 75) ?_; clear HB; intro gb493 w3 BK493 GE493 HB; have hz4 := cs8_ BK493))
 (try simp only [Act.put, sA, sB, sC])
 go_cut [41] (fun v41 wc => ∃ (kq : Nat) (x41_1 : Bool), v41 = .bool x41_1 ∧ Aside0 (impl_MachineOk.j0 kq (l0_2.length : Int) x41_1 l0_0 l0_1 l0_2 a0_3 l0_4 l0_5 l0_6 a0_7 = some r) ∧ Aside0 (kq ≤ k) ∧ Aside0 (wc.heap[gb493]? = some (.cells #[(.slice A0_0 l0_0.length c0_0), (.slice A0_1 l0_1.length c0_1), (.slice A0_2 l0_2.length c0_2), .int .i64 a0_3, (.slice A0_4 l0_4.length c0_4), (.slice A0_5 l0_5.length c0_5), (.slice A0_6 l0_6.length c0_6), .int .i64 a0_7] 75 (0, 0))) ∧ Aside0 (Below w.heap.size w wc))
 case first =>
  have H := HC2.out
  clear HC2
  obtain ⟨t494, A5, H⟩ := bn H
  try dsimp only at H
  cases t494
  case false =>
   replace H := ipf H
   have H' := Aside0.mk H
   clear H
   have hz25 := cs8_ BK493
   go_wp2_with (first | ((with_reducible refine gf 22 rfl ?_); refine gL 14 Tryz.func22 #[.agg #[.slice A0_0 l0_0.length c0_0, .slice A0_1 l0_1.length c0_1]] ?_; (with_reducible refine (impl_MemOk.calls k _ _ l0_0 _ _ l0_1 false _ (kc HR0_0 HB) HC0_0.out (kc HR0_1 HB) HC0_1.out A5.out).mono ?_); rintro e w26 ⟨rfl, hb⟩; refine ⟨_, rfl, ?_⟩; replace BK493 := bb BK493 hb; replace HB := bs HB hb; (try clear hb)))
   go_meet
   case rel => exact ⟨_, (true), rsd, H', ⟨by first | omega | exact Nat.le_refl _⟩, ⟨by (with_reducible repeat (first | refine blk_drewN ?_ _ | refine blk_drew ?_ | refine blk_alloc ?_ _)); exact BK493.out⟩, ⟨tb HB⟩⟩
  replace H := ipt H
  by_cases c7 : (l0_1.length : Int) = (l0_2.length : Int)
  case neg =>
   rw [if_neg c7] at H
   have c7b0 : ((l0_1.length : Int) == (l0_2.length : Int)) = false := beq_eq_false_iff_ne.mpr c7
   have c7b1 : ((l0_1.length : Int) != (l0_2.length : Int)) = true := bne_iff_ne.mpr c7
   have c7b2 : (l0_1.length == l0_2.length) = false := by first | simpa using c7 | (simp at c7 ⊢; omega)
   (first | rw [c7b0] | (simp only [i64_w, i32_w]; rw [c7b0]) | skip)
   have H' := Aside0.mk H
   clear H
   have hz22 := cs8_ BK493
   go_wp2_with (first | ((with_reducible refine gf 22 rfl ?_); refine gL 14 Tryz.func22 #[.agg #[.slice A0_0 l0_0.length c0_0, .slice A0_1 l0_1.length c0_1]] ?_; (with_reducible refine (impl_MemOk.calls k _ _ l0_0 _ _ l0_1 true _ (kc HR0_0 HB) HC0_0.out (kc HR0_1 HB) HC0_1.out A5.out).mono ?_); rintro e w23 ⟨rfl, hb⟩; refine ⟨_, rfl, ?_⟩; replace BK493 := bb BK493 hb; replace HB := bs HB hb; (try clear hb); have hz24 := cs8_ BK493))
   go_meet
   case rel => exact ⟨_, (true), rsd, H', ⟨by first | omega | exact Nat.le_refl _⟩, ⟨by (with_reducible repeat (first | refine blk_drewN ?_ _ | refine blk_drew ?_ | refine blk_alloc ?_ _)); exact BK493.out⟩, ⟨tb HB⟩⟩
  rw [if_pos c7] at H
  have c7b0 : ((l0_1.length : Int) == (l0_2.length : Int)) = true := beq_iff_eq.mpr c7
  have c7b1 : ((l0_1.length : Int) != (l0_2.length : Int)) = false := bne_eq_false_iff_eq.mpr c7
  have c7b2 : (l0_1.length == l0_2.length) = true := by first | simpa using c7 | (simp at c7 ⊢; omega)
  clear c7
  (first | rw [c7b0] | (simp only [i64_w, i32_w]; rw [c7b0]) | skip)
  obtain ⟨t495, A8, H⟩ := bn H
  try dsimp only at H
  cases t495
  case false =>
   replace H := ipf H
   have H' := Aside0.mk H
   clear H
   have hz19 := cs8_ BK493
   go_wp2_with (first | ((with_reducible refine gf 22 rfl ?_); refine gL 14 Tryz.func22 #[.agg #[.slice A0_0 l0_0.length c0_0, .slice A0_1 l0_1.length c0_1]] ?_; (with_reducible refine (impl_MemOk.calls k _ _ l0_0 _ _ l0_1 true _ (kc HR0_0 HB) HC0_0.out (kc HR0_1 HB) HC0_1.out A5.out).mono ?_); rintro e w20 ⟨rfl, hb⟩; refine ⟨_, rfl, ?_⟩; replace BK493 := bb BK493 hb; replace HB := bs HB hb; (try clear hb); have hz21 := cs8_ BK493) | (go_at_call 62; (with_reducible refine (impl_from.calls a0_3 0 100000 false _ A8.out).mono ?_); rintro e w' ⟨rfl, ⟨nd, rfl⟩⟩))
   go_meet
   case rel => exact ⟨_, (true), rsd, H', ⟨by first | omega | exact Nat.le_refl _⟩, ⟨by (with_reducible repeat (first | refine blk_drewN ?_ _ | refine blk_drew ?_ | refine blk_alloc ?_ _)); exact BK493.out⟩, ⟨tb HB⟩⟩
  replace H := ipt H
  by_cases c10 : (l0_4.length : Int) > 40
  case pos =>
   rw [if_pos c10] at H
   have c10b0 := decide_eq_true c10
   have c10b1 : decide (40 < l0_4.length) = true := decide_eq_true (by omega)
   clear c10
   have H' := Aside0.mk H
   clear H
   have hz11 := cs8_ BK493
   go_wp2_with (first | ((with_reducible refine gf 22 rfl ?_); refine gL 14 Tryz.func22 #[.agg #[.slice A0_0 l0_0.length c0_0, .slice A0_1 l0_1.length c0_1]] ?_; (with_reducible refine (impl_MemOk.calls k _ _ l0_0 _ _ l0_1 true _ (kc HR0_0 HB) HC0_0.out (kc HR0_1 HB) HC0_1.out A5.out).mono ?_); rintro e w12 ⟨rfl, hb⟩; refine ⟨_, rfl, ?_⟩; replace BK493 := bb BK493 hb; replace HB := bs HB hb; (try clear hb); have hz13 := cs8_ BK493) | (go_at_call 62; (with_reducible refine (impl_from.calls a0_3 0 100000 true _ A8.out).mono ?_); rintro e w' ⟨rfl, ⟨nd, rfl⟩⟩))
   go_meet
   case rel => exact ⟨_, (true), rsd, H', ⟨by first | omega | exact Nat.le_refl _⟩, ⟨by (with_reducible repeat (first | refine blk_drewN ?_ _ | refine blk_drew ?_ | refine blk_alloc ?_ _)); exact BK493.out⟩, ⟨tb HB⟩⟩
  rw [if_neg c10] at H
  have c10b0 := decide_eq_false c10
  have c10b1 : decide (40 < l0_4.length) = false := decide_eq_false (by omega)
  clear c10
  obtain ⟨t496, A14, H⟩ := bn H
  try dsimp only at H
  have H' := Aside0.mk H
  clear H
  have hz15 := cs8_ BK493
  go_wp2_with (first | ((with_reducible refine gf 22 rfl ?_); refine gL 14 Tryz.func22 #[.agg #[.slice A0_0 l0_0.length c0_0, .slice A0_1 l0_1.length c0_1]] ?_; (with_reducible refine (impl_MemOk.calls k _ _ l0_0 _ _ l0_1 true _ (kc HR0_0 HB) HC0_0.out (kc HR0_1 HB) HC0_1.out A5.out).mono ?_); rintro e w16 ⟨rfl, hb⟩; refine ⟨_, rfl, ?_⟩; replace BK493 := bb BK493 hb; replace HB := bs HB hb; (try clear hb); have hz17 := cs8_ BK493) | (go_at_call 62; (with_reducible refine (impl_from.calls a0_3 0 100000 true _ A8.out).mono ?_); rintro e w' ⟨rfl, ⟨nd, rfl⟩⟩) | (go_at_call 93; (with_reducible refine (impl_RowsOk.calls k _ _ l0_6 a0_7 t496 _ ?side1 HC0_6.out A14.out).mono ?_); (case side1 => repeat (first | exact (Kd.C_below HR0_6.out (tb HB)) | (with_reducible refine Kd.C_alloc ?_ _) | (with_reducible refine Kd.C_drewN ?_ _) | (with_reducible refine Kd.C_drew ?_))); rintro e w18 ⟨rfl, hb⟩; replace BK493 := bb BK493 hb; replace HB := bs HB hb; (try clear hb)))
  go_meet
  case rel => exact ⟨_, (!t496), rsd, H', ⟨by first | omega | exact Nat.le_refl _⟩, ⟨by (with_reducible repeat (first | refine blk_drewN ?_ _ | refine blk_drew ?_ | refine blk_alloc ?_ _)); exact BK493.out⟩, ⟨tb HB⟩⟩
 case rest =>
  clear HC2
  obtain ⟨kq, x41_1, rfl, HA, HJ1, BK493, HB⟩ := hcut
  cases kq with
  | zero => exact absurd HA.out (by simp [impl_MachineOk.j0])
  | succ kj1 =>
   have H := HA.out
   clear HA
   simp only [impl_MachineOk.j0] at H
   cases x41_1
   case true =>
    replace H := ipt H
    obtain rfl := oin H
    go_wp2
    go_ret
    exact ⟨er, tb HB⟩
   replace H := ipf H
   have H' := Aside0.mk H
   clear H
   have hz28 := cs8_ BK493
   go_wp2
   go_loopg [46] kj1 (fun kq v46 w' => ∃ (x46_2 : Int), v46 = .int .i64 x46_2 ∧ Aside0 (impl_MachineOk.l0 kq (l0_2.length : Int) l0_4 (l0_4.length : Int) x46_2 l0_0 l0_1 l0_2 a0_3 l0_4 l0_5 l0_6 a0_7 = some r) ∧ Aside0 (kq ≤ kj1) ∧ Aside0 (w'.heap[gb493]? = some (.cells #[(.slice A0_0 l0_0.length c0_0), (.slice A0_1 l0_1.length c0_1), (.slice A0_2 l0_2.length c0_2), .int .i64 a0_3, (.slice A0_4 l0_4.length c0_4), (.slice A0_5 l0_5.length c0_5), (.slice A0_6 l0_6.length c0_6), .int .i64 a0_7] 75 (0, 0))) ∧ Aside0 (Below w.heap.size w w'))
   case atStart => exact ⟨(0), rsd, H', ⟨Nat.le_refl _⟩, ⟨by (with_reducible repeat (first | refine blk_drewN ?_ _ | refine blk_drew ?_ | refine blk_alloc ?_ _)); exact BK493.out⟩, ⟨tb HB⟩⟩
   case round =>
    clear H'
    obtain ⟨x46_2, rfl, HA, HK2, BK493, HB⟩ := hrel
    cases gk with
    | zero => exact absurd HA.out (by simp [impl_MachineOk.l0])
    | succ k2 =>
     have H := HA.out
     clear HA
     simp only [impl_MachineOk.l0] at H
     revert H; refine icd (fun c29b0 H => ?pos) fun c29b0 H => ?_
     case pos =>
      obtain ⟨c30b0, H⟩ := itd H
      obtain ⟨c31b0, H⟩ := itd H
      obtain ⟨t499, A32, H⟩ := bn H
      try dsimp only at H
      cases t499
      case false =>
       replace H := ipf H
       obtain rfl := oin H
       have p497 : 0 ≤ (x46_2 : Int) := od
       have q497 : x46_2 < (l0_4.length : Int) := od
       obtain ⟨ad497, A497_8, c497_8, e497, hx497, hl497_8, hi497_8⟩ := att134 HR0_4.out x46_2 p497 q497
       cases e497
       replace hx497 := ox9 HB hx497
       have HR497_8 := Aside0.mk hi497_8
       have HC497_8 := Aside0.mk hl497_8
       clear hi497_8 hl497_8
       replace p497 := eq_true p497
       replace q497 := eq_true q497
       go_wp2_with (first | ((with_reducible refine gq 6 rfl ?_); (try (refine gate_guard (by rfl) ?_; dsimp only)); refine bx1 HB BK493 (N := 6) (cs := #[.int .i64 0, .int .i64 0, .int .i64 0, .int .i64 0, .int .i64 0, .int .i64 0, .int .i64 0, .int .i64 0, .slice none 0 0]) (t := 134) ?_; clear HB BK493; intro gb498 w77 BK498 GE498 HB NB493_498 NB498_493 BK493; have hnb78 := NB498_493.out; have hnc78 := NB493_498.out; have hz79 := cs9_ BK498) | ((with_reducible refine gf 62 rfl ?_); refine gL 54 Tryz.func62 #[.int .i64 ((rd_T134 l0_4 x46_2).f0), .int .i64 0, .int .i64 (wrap64 ((l0_2.length : Int) - 1))] ?_; (with_reducible refine (impl_from.calls ((rd_T134 l0_4 x46_2).f0) 0 (wrap64 ((l0_2.length : Int) - 1)) false _ A32.out).mono ?_); rintro e w' ⟨rfl, ⟨nd, rfl⟩⟩; refine ⟨_, rfl, ?_⟩))
       go_ret
       exact ⟨er, tb HB⟩
      replace H := ipt H
      obtain ⟨t500, A34, H⟩ := bn H
      try dsimp only at H
      cases t500
      case false =>
       replace H := ipf H
       obtain rfl := oin H
       have p497 : 0 ≤ (x46_2 : Int) := od
       have q497 : x46_2 < (l0_4.length : Int) := od
       obtain ⟨ad497, A497_8, c497_8, e497, hx497_0, hx497_1, hx497_2, hx497_3, hx497_4, hx497_5, hx497_6, hx497_7, hx497_8, hl497_8, hi497_8⟩ := at_T134 HR0_4.out x46_2 p497 q497
       cases e497
       replace hx497_0 := ox HB hx497_0
       replace hx497_1 := ox HB hx497_1
       replace hx497_2 := ox HB hx497_2
       replace hx497_3 := ox HB hx497_3
       replace hx497_4 := ox HB hx497_4
       replace hx497_5 := ox HB hx497_5
       replace hx497_6 := ox HB hx497_6
       replace hx497_7 := ox HB hx497_7
       replace hx497_8 := ox HB hx497_8
       have HR497_8 := Aside0.mk hi497_8
       have HC497_8 := Aside0.mk hl497_8
       clear hi497_8 hl497_8
       replace p497 := eq_true p497
       replace q497 := eq_true q497
       go_wp2_with (first | ((with_reducible refine gq 6 rfl ?_); (try (refine gate_guard (by rfl) ?_; dsimp only)); refine bx1 HB BK493 (N := 6) (cs := #[.int .i64 0, .int .i64 0, .int .i64 0, .int .i64 0, .int .i64 0, .int .i64 0, .int .i64 0, .int .i64 0, .slice none 0 0]) (t := 134) ?_; clear HB BK493; intro gb498 w73 BK498 GE498 HB NB493_498 NB498_493 BK493; have hnb74 := NB498_493.out; have hnc74 := NB493_498.out; have hz75 := cs9_ BK498) | ((with_reducible refine gf 62 rfl ?_); refine gL 54 Tryz.func62 #[.int .i64 ((rd_T134 l0_4 x46_2).f0), .int .i64 0, .int .i64 (wrap64 ((l0_2.length : Int) - 1))] ?_; (with_reducible refine (impl_from.calls ((rd_T134 l0_4 x46_2).f0) 0 (wrap64 ((l0_2.length : Int) - 1)) true _ A32.out).mono ?_); rintro e w' ⟨rfl, ⟨nd, rfl⟩⟩; refine ⟨_, rfl, ?_⟩) | (go_at_call 95; (with_reducible refine (impl_OpOk.calls k2 ((rd_T134 l0_4 x46_2).f1.f0) ((rd_T134 l0_4 x46_2).f1.f1) ((rd_T134 l0_4 x46_2).f1.f2) false _ A34.out).mono ?_); rintro e w76 ⟨rfl, hb⟩; replace BK493 := bbf BK493 hb; replace BK498 := bbp9 BK498 hb; replace HB := bs HB hb; (try clear hb)))
       go_ret
       exact ⟨er, tb HB⟩
      replace H := ipt H
      obtain ⟨t501, A36, H⟩ := bn H
      try dsimp only at H
      cases t501
      case false =>
       replace H := ipf H
       obtain rfl := oin H
       have p497 : 0 ≤ (x46_2 : Int) := od
       have q497 : x46_2 < (l0_4.length : Int) := od
       obtain ⟨ad497, A497_8, c497_8, e497, hx497_0, hx497_1, hx497_2, hx497_3, hx497_4, hx497_5, hx497_6, hx497_7, hx497_8, hl497_8, hi497_8⟩ := at_T134 HR0_4.out x46_2 p497 q497
       cases e497
       replace hx497_0 := ox HB hx497_0
       replace hx497_1 := ox HB hx497_1
       replace hx497_2 := ox HB hx497_2
       replace hx497_3 := ox HB hx497_3
       replace hx497_4 := ox HB hx497_4
       replace hx497_5 := ox HB hx497_5
       replace hx497_6 := ox HB hx497_6
       replace hx497_7 := ox HB hx497_7
       replace hx497_8 := ox HB hx497_8
       have HR497_8 := Aside0.mk hi497_8
       have HC497_8 := Aside0.mk hl497_8
       clear hi497_8 hl497_8
       replace p497 := eq_true p497
       replace q497 := eq_true q497
       go_wp2_with (first | ((with_reducible refine gq 6 rfl ?_); (try (refine gate_guard (by rfl) ?_; dsimp only)); refine bx1 HB BK493 (N := 6) (cs := #[.int .i64 0, .int .i64 0, .int .i64 0, .int .i64 0, .int .i64 0, .int .i64 0, .int .i64 0, .int .i64 0, .slice none 0 0]) (t := 134) ?_; clear HB BK493; intro gb498 w67 BK498 GE498 HB NB493_498 NB498_493 BK493; have hnb68 := NB498_493.out; have hnc68 := NB493_498.out; have hz69 := cs9_ BK498) | ((with_reducible refine gf 62 rfl ?_); refine gL 54 Tryz.func62 #[.int .i64 ((rd_T134 l0_4 x46_2).f0), .int .i64 0, .int .i64 (wrap64 ((l0_2.length : Int) - 1))] ?_; (with_reducible refine (impl_from.calls ((rd_T134 l0_4 x46_2).f0) 0 (wrap64 ((l0_2.length : Int) - 1)) true _ A32.out).mono ?_); rintro e w' ⟨rfl, ⟨nd, rfl⟩⟩; refine ⟨_, rfl, ?_⟩) | (go_at_call 95; (with_reducible refine (impl_OpOk.calls k2 ((rd_T134 l0_4 x46_2).f1.f0) ((rd_T134 l0_4 x46_2).f1.f1) ((rd_T134 l0_4 x46_2).f1.f2) true _ A34.out).mono ?_); rintro e w70 ⟨rfl, hb⟩; replace BK493 := bbf BK493 hb; replace BK498 := bbp9 BK498 hb; replace HB := bs HB hb; (try clear hb); have hz71 := cs9_ BK498; have hz72 := cs8_ BK493) | (go_at_call 62; (with_reducible refine (impl_from.calls ((rd_T134 l0_4 x46_2).f2) 0 a0_3 false _ A36.out).mono ?_); rintro e w' ⟨rfl, ⟨nd, rfl⟩⟩))
       go_ret
       exact ⟨er, tb HB⟩
      replace H := ipt H
      obtain ⟨t502, A38, H⟩ := bn H
      try dsimp only at H
      cases t502
      case false =>
       replace H := ipf H
       obtain rfl := oin H
       have p497 : 0 ≤ (x46_2 : Int) := od
       have q497 : x46_2 < (l0_4.length : Int) := od
       obtain ⟨ad497, A497_8, c497_8, e497, hx497_0, hx497_1, hx497_2, hx497_3, hx497_4, hx497_5, hx497_6, hx497_7, hx497_8, hl497_8, hi497_8⟩ := at_T134 HR0_4.out x46_2 p497 q497
       cases e497
       replace hx497_0 := ox HB hx497_0
       replace hx497_1 := ox HB hx497_1
       replace hx497_2 := ox HB hx497_2
       replace hx497_3 := ox HB hx497_3
       replace hx497_4 := ox HB hx497_4
       replace hx497_5 := ox HB hx497_5
       replace hx497_6 := ox HB hx497_6
       replace hx497_7 := ox HB hx497_7
       replace hx497_8 := ox HB hx497_8
       have HR497_8 := Aside0.mk hi497_8
       have HC497_8 := Aside0.mk hl497_8
       clear hi497_8 hl497_8
       replace p497 := eq_true p497
       replace q497 := eq_true q497
       go_wp2_with (first | ((with_reducible refine gq 6 rfl ?_); (try (refine gate_guard (by rfl) ?_; dsimp only)); refine bx1 HB BK493 (N := 6) (cs := #[.int .i64 0, .int .i64 0, .int .i64 0, .int .i64 0, .int .i64 0, .int .i64 0, .int .i64 0, .int .i64 0, .slice none 0 0]) (t := 134) ?_; clear HB BK493; intro gb498 w60 BK498 GE498 HB NB493_498 NB498_493 BK493; have hnb61 := NB498_493.out; have hnc61 := NB493_498.out; have hz62 := cs9_ BK498) | ((with_reducible refine gf 62 rfl ?_); refine gL 54 Tryz.func62 #[.int .i64 ((rd_T134 l0_4 x46_2).f0), .int .i64 0, .int .i64 (wrap64 ((l0_2.length : Int) - 1))] ?_; (with_reducible refine (impl_from.calls ((rd_T134 l0_4 x46_2).f0) 0 (wrap64 ((l0_2.length : Int) - 1)) true _ A32.out).mono ?_); rintro e w' ⟨rfl, ⟨nd, rfl⟩⟩; refine ⟨_, rfl, ?_⟩) | (go_at_call 95; (with_reducible refine (impl_OpOk.calls k2 ((rd_T134 l0_4 x46_2).f1.f0) ((rd_T134 l0_4 x46_2).f1.f1) ((rd_T134 l0_4 x46_2).f1.f2) true _ A34.out).mono ?_); rintro e w63 ⟨rfl, hb⟩; replace BK493 := bbf BK493 hb; replace BK498 := bbp9 BK498 hb; replace HB := bs HB hb; (try clear hb); have hz64 := cs9_ BK498; have hz65 := cs8_ BK493) | (go_at_call 62; (with_reducible refine (impl_from.calls ((rd_T134 l0_4 x46_2).f2) 0 a0_3 true _ A36.out).mono ?_); rintro e w' ⟨rfl, ⟨nd, rfl⟩⟩) | (go_at_call 94; (with_reducible refine (impl_MachineOk_1.calls ((rd_T134 l0_4 x46_2).f0) ((rd_T134 l0_4 x46_2).f1.f0) ((rd_T134 l0_4 x46_2).f1.f1) ((rd_T134 l0_4 x46_2).f1.f2) ((rd_T134 l0_4 x46_2).f2) ((rd_T134 l0_4 x46_2).f3) ((rd_T134 l0_4 x46_2).f4) ((rd_T134 l0_4 x46_2).f5.f0) _ _ ((rd_T134 l0_4 x46_2).f5.f1) ((rd_T134 l0_4 x46_2).f3) gb493 a0_3 false _ ?side1 HC497_8.out ?side3 A38.out).mono ?_); (case side1 => repeat (first | exact (Kd.C_below HR497_8.out (tb HB)) | (with_reducible refine Kd.C_alloc ?_ _) | (with_reducible refine Kd.C_drewN ?_ _) | (with_reducible refine Kd.C_drew ?_))); (case side3 => exact TimeAt.of (bk BK493)); rintro e w66 ⟨rfl, hb⟩; replace BK493 := bb BK493 hb; replace BK498 := bb BK498 hb; replace HB := bs HB hb; (try clear hb)))
       go_ret
       exact ⟨er, tb HB⟩
      replace H := ipt H
      obtain ⟨t503, A40, H⟩ := bn H
      try dsimp only at H
      cases t503
      case false =>
       replace H := ipf H
       obtain rfl := oin H
       have p497 : 0 ≤ (x46_2 : Int) := od
       have q497 : x46_2 < (l0_4.length : Int) := od
       obtain ⟨ad497, A497_8, c497_8, e497, hx497_0, hx497_1, hx497_2, hx497_3, hx497_4, hx497_5, hx497_6, hx497_7, hx497_8, hl497_8, hi497_8⟩ := at_T134 HR0_4.out x46_2 p497 q497
       cases e497
       replace hx497_0 := ox HB hx497_0
       replace hx497_1 := ox HB hx497_1
       replace hx497_2 := ox HB hx497_2
       replace hx497_3 := ox HB hx497_3
       replace hx497_4 := ox HB hx497_4
       replace hx497_5 := ox HB hx497_5
       replace hx497_6 := ox HB hx497_6
       replace hx497_7 := ox HB hx497_7
       replace hx497_8 := ox HB hx497_8
       have HR497_8 := Aside0.mk hi497_8
       have HC497_8 := Aside0.mk hl497_8
       clear hi497_8 hl497_8
       replace p497 := eq_true p497
       replace q497 := eq_true q497
       go_wp2_with (first | ((with_reducible refine gq 6 rfl ?_); (try (refine gate_guard (by rfl) ?_; dsimp only)); refine bx1 HB BK493 (N := 6) (cs := #[.int .i64 0, .int .i64 0, .int .i64 0, .int .i64 0, .int .i64 0, .int .i64 0, .int .i64 0, .int .i64 0, .slice none 0 0]) (t := 134) ?_; clear HB BK493; intro gb498 w51 BK498 GE498 HB NB493_498 NB498_493 BK493; have hnb52 := NB498_493.out; have hnc52 := NB493_498.out; have hz53 := cs9_ BK498) | ((with_reducible refine gf 62 rfl ?_); refine gL 54 Tryz.func62 #[.int .i64 ((rd_T134 l0_4 x46_2).f0), .int .i64 0, .int .i64 (wrap64 ((l0_2.length : Int) - 1))] ?_; (with_reducible refine (impl_from.calls ((rd_T134 l0_4 x46_2).f0) 0 (wrap64 ((l0_2.length : Int) - 1)) true _ A32.out).mono ?_); rintro e w' ⟨rfl, ⟨nd, rfl⟩⟩; refine ⟨_, rfl, ?_⟩) | (go_at_call 95; (with_reducible refine (impl_OpOk.calls k2 ((rd_T134 l0_4 x46_2).f1.f0) ((rd_T134 l0_4 x46_2).f1.f1) ((rd_T134 l0_4 x46_2).f1.f2) true _ A34.out).mono ?_); rintro e w54 ⟨rfl, hb⟩; replace BK493 := bbf BK493 hb; replace BK498 := bbp9 BK498 hb; replace HB := bs HB hb; (try clear hb); have hz55 := cs9_ BK498; have hz56 := cs8_ BK493) | (go_at_call 62; (with_reducible refine (impl_from.calls ((rd_T134 l0_4 x46_2).f2) 0 a0_3 true _ A36.out).mono ?_); rintro e w' ⟨rfl, ⟨nd, rfl⟩⟩) | (go_at_call 94; (with_reducible refine (impl_MachineOk_1.calls ((rd_T134 l0_4 x46_2).f0) ((rd_T134 l0_4 x46_2).f1.f0) ((rd_T134 l0_4 x46_2).f1.f1) ((rd_T134 l0_4 x46_2).f1.f2) ((rd_T134 l0_4 x46_2).f2) ((rd_T134 l0_4 x46_2).f3) ((rd_T134 l0_4 x46_2).f4) ((rd_T134 l0_4 x46_2).f5.f0) _ _ ((rd_T134 l0_4 x46_2).f5.f1) ((rd_T134 l0_4 x46_2).f3) gb493 a0_3 true _ ?side1 HC497_8.out ?side3 A38.out).mono ?_); (case side1 => repeat (first | exact (Kd.C_below HR497_8.out (tb HB)) | (with_reducible refine Kd.C_alloc ?_ _) | (with_reducible refine Kd.C_drewN ?_ _) | (with_reducible refine Kd.C_drew ?_))); (case side3 => exact TimeAt.of (bk BK493)); rintro e w57 ⟨rfl, hb⟩; replace BK493 := bb BK493 hb; replace BK498 := bb BK498 hb; replace HB := bs HB hb; (try clear hb); have hz58 := cs9_ BK498) | (go_at_call 94; (with_reducible refine (impl_MachineOk_1.calls ((rd_T134 l0_4 x46_2).f0) ((rd_T134 l0_4 x46_2).f1.f0) ((rd_T134 l0_4 x46_2).f1.f1) ((rd_T134 l0_4 x46_2).f1.f2) ((rd_T134 l0_4 x46_2).f2) ((rd_T134 l0_4 x46_2).f3) ((rd_T134 l0_4 x46_2).f4) ((rd_T134 l0_4 x46_2).f5.f0) _ _ ((rd_T134 l0_4 x46_2).f5.f1) ((rd_T134 l0_4 x46_2).f4) gb493 a0_3 false _ (kc HR497_8 HB) HC497_8.out ?side3 A40.out).mono ?_); (case side3 => exact TimeAt.of (bk BK493)); rintro e w59 ⟨rfl, hb⟩; replace BK493 := bb BK493 hb; replace BK498 := bb BK498 hb; replace HB := bs HB hb; (try clear hb)))
       go_ret
       exact ⟨er, tb HB⟩
      replace H := ipt H
      have H' := Aside0.mk H
      clear H
      have p497 : 0 ≤ (x46_2 : Int) := od
      have q497 : x46_2 < (l0_4.length : Int) := od
      obtain ⟨ad497, A497_8, c497_8, e497, hx497_0, hx497_1, hx497_2, hx497_3, hx497_4, hx497_5, hx497_6, hx497_7, hx497_8, hl497_8, hi497_8⟩ := at_T134 HR0_4.out x46_2 p497 q497
      cases e497
      replace hx497_0 := ox HB hx497_0
      replace hx497_1 := ox HB hx497_1
      replace hx497_2 := ox HB hx497_2
      replace hx497_3 := ox HB hx497_3
      replace hx497_4 := ox HB hx497_4
      replace hx497_5 := ox HB hx497_5
      replace hx497_6 := ox HB hx497_6
      replace hx497_7 := ox HB hx497_7
      replace hx497_8 := ox HB hx497_8
      have HR497_8 := Aside0.mk hi497_8
      have HC497_8 := Aside0.mk hl497_8
      clear hi497_8 hl497_8
      replace p497 := eq_true p497
      replace q497 := eq_true q497
      go_wp2_with (first | ((with_reducible refine gq 6 rfl ?_); (try (refine gate_guard (by rfl) ?_; dsimp only)); refine bx1 HB BK493 (N := 6) (cs := #[.int .i64 0, .int .i64 0, .int .i64 0, .int .i64 0, .int .i64 0, .int .i64 0, .int .i64 0, .int .i64 0, .slice none 0 0]) (t := 134) ?_; clear HB BK493; intro gb498 w42 BK498 GE498 HB NB493_498 NB498_493 BK493; have hnb43 := NB498_493.out; have hnc43 := NB493_498.out; have hz44 := cs9_ BK498) | ((with_reducible refine gf 62 rfl ?_); refine gL 54 Tryz.func62 #[.int .i64 ((rd_T134 l0_4 x46_2).f0), .int .i64 0, .int .i64 (wrap64 ((l0_2.length : Int) - 1))] ?_; (with_reducible refine (impl_from.calls ((rd_T134 l0_4 x46_2).f0) 0 (wrap64 ((l0_2.length : Int) - 1)) true _ A32.out).mono ?_); rintro e w' ⟨rfl, ⟨nd, rfl⟩⟩; refine ⟨_, rfl, ?_⟩) | (go_at_call 95; (with_reducible refine (impl_OpOk.calls k2 ((rd_T134 l0_4 x46_2).f1.f0) ((rd_T134 l0_4 x46_2).f1.f1) ((rd_T134 l0_4 x46_2).f1.f2) true _ A34.out).mono ?_); rintro e w45 ⟨rfl, hb⟩; replace BK493 := bbf BK493 hb; replace BK498 := bbp9 BK498 hb; replace HB := bs HB hb; (try clear hb); have hz46 := cs9_ BK498; have hz47 := cs8_ BK493) | (go_at_call 62; (with_reducible refine (impl_from.calls ((rd_T134 l0_4 x46_2).f2) 0 a0_3 true _ A36.out).mono ?_); rintro e w' ⟨rfl, ⟨nd, rfl⟩⟩) | (go_at_call 94; (with_reducible refine (impl_MachineOk_1.calls ((rd_T134 l0_4 x46_2).f0) ((rd_T134 l0_4 x46_2).f1.f0) ((rd_T134 l0_4 x46_2).f1.f1) ((rd_T134 l0_4 x46_2).f1.f2) ((rd_T134 l0_4 x46_2).f2) ((rd_T134 l0_4 x46_2).f3) ((rd_T134 l0_4 x46_2).f4) ((rd_T134 l0_4 x46_2).f5.f0) _ _ ((rd_T134 l0_4 x46_2).f5.f1) ((rd_T134 l0_4 x46_2).f3) gb493 a0_3 true _ ?side1 HC497_8.out ?side3 A38.out).mono ?_); (case side1 => repeat (first | exact (Kd.C_below HR497_8.out (tb HB)) | (with_reducible refine Kd.C_alloc ?_ _) | (with_reducible refine Kd.C_drewN ?_ _) | (with_reducible refine Kd.C_drew ?_))); (case side3 => exact TimeAt.of (bk BK493)); rintro e w48 ⟨rfl, hb⟩; replace BK493 := bb BK493 hb; replace BK498 := bb BK498 hb; replace HB := bs HB hb; (try clear hb); have hz49 := cs9_ BK498) | (go_at_call 94; (with_reducible refine (impl_MachineOk_1.calls ((rd_T134 l0_4 x46_2).f0) ((rd_T134 l0_4 x46_2).f1.f0) ((rd_T134 l0_4 x46_2).f1.f1) ((rd_T134 l0_4 x46_2).f1.f2) ((rd_T134 l0_4 x46_2).f2) ((rd_T134 l0_4 x46_2).f3) ((rd_T134 l0_4 x46_2).f4) ((rd_T134 l0_4 x46_2).f5.f0) _ _ ((rd_T134 l0_4 x46_2).f5.f1) ((rd_T134 l0_4 x46_2).f4) gb493 a0_3 true _ (kc HR497_8 HB) HC497_8.out ?side3 A40.out).mono ?_); (case side3 => exact TimeAt.of (bk BK493)); rintro e w50 ⟨rfl, hb⟩; replace BK493 := bb BK493 hb; replace BK498 := bb BK498 hb; replace HB := bs HB hb; (try clear hb)))
      go_roundg k2
      case measure => have := HJ1.out; have := HK2.out; omega
      case rel => exact ⟨(wrap64 (x46_2 + 1)), rsd, H', ⟨by have := HJ1.out; have := HK2.out; omega⟩, ⟨by (with_reducible repeat (first | refine blk_drewN ?_ _ | refine blk_drew ?_ | refine blk_alloc ?_ _)); exact BK493.out⟩, ⟨tb HB⟩⟩
     have H' := Aside0.mk H
     clear H
     have hz80 := cs8_ BK493
     go_wp2
     go_loopg [90] k2 (fun kq v90 w' => ∃ (x90_3 : Int), v90 = .int .i64 x90_3 ∧ Aside0 (impl_MachineOk.l1 kq (l0_2.length : Int) l0_2 (l0_2.length : Int) x90_3 l0_0 l0_1 l0_2 a0_3 l0_4 l0_5 l0_6 a0_7 = some r) ∧ Aside0 (kq ≤ k2) ∧ Aside0 (w'.heap[gb493]? = some (.cells #[(.slice A0_0 l0_0.length c0_0), (.slice A0_1 l0_1.length c0_1), (.slice A0_2 l0_2.length c0_2), .int .i64 a0_3, (.slice A0_4 l0_4.length c0_4), (.slice A0_5 l0_5.length c0_5), (.slice A0_6 l0_6.length c0_6), .int .i64 a0_7] 75 (0, 0))) ∧ Aside0 (Below w.heap.size w w'))
     case atStart => exact ⟨(0), rsd, H', ⟨Nat.le_refl _⟩, ⟨by (with_reducible repeat (first | refine blk_drewN ?_ _ | refine blk_drew ?_ | refine blk_alloc ?_ _)); exact BK493.out⟩, ⟨tb HB⟩⟩
     case round =>
      clear H'
      try clear hx497_0
      try clear hx497_1
      try clear hx497_2
      try clear hx497_3
      try clear hx497_4
      try clear hx497_5
      try clear hx497_6
      try clear hx497_7
      try clear hx497_8
      obtain ⟨x90_3, rfl, HA, HK3, BK493, HB⟩ := hrel
      cases gk with
      | zero => exact absurd HA.out (by simp [impl_MachineOk.l1])
      | succ k3 =>
       have H := HA.out
       clear HA
       simp only [impl_MachineOk.l1] at H
       revert H; refine icd (fun c81b0 H => ?_) fun c81b0 H => ?neg
       case neg =>
        obtain ⟨t504, A104, H⟩ := bn H
        try dsimp only at H
        obtain rfl := oin H
        have hz105 := cs8_ BK493
        go_wp2_with (first | ((with_reducible refine gf 97 rfl ?_); refine gL 107 Tryz.func97 #[.agg #[.slice A0_0 l0_0.length c0_0, .slice A0_1 l0_1.length c0_1, .slice A0_2 l0_2.length c0_2, .int .i64 a0_3, .slice A0_4 l0_4.length c0_4, .slice A0_5 l0_5.length c0_5, .slice A0_6 l0_6.length c0_6, .int .i64 a0_7]] ?_; (with_reducible refine (impl_orderOk.calls k3 _ _ l0_0 _ _ l0_1 _ _ l0_2 a0_3 _ _ l0_4 _ _ l0_5 _ _ l0_6 a0_7 t504 _ (kc HR0_0 HB) HC0_0.out (kc HR0_1 HB) HC0_1.out (kc HR0_2 HB) HC0_2.out (kc HR0_4 HB) HC0_4.out (kc HR0_5 HB) HC0_5.out (kc HR0_6 HB) HC0_6.out A104.out).mono ?_); rintro e w106 ⟨rfl, hb⟩; refine ⟨_, rfl, ?_⟩; replace BK493 := bb BK493 hb; replace HB := bs HB hb; (try clear hb)))
        go_ret
        exact ⟨er, tb HB⟩
       obtain ⟨c82b0, H⟩ := itd H
       obtain ⟨c83b0, H⟩ := itd H
       obtain ⟨t507, A84, H⟩ := bn H
       try dsimp only at H
       cases t507
       case false =>
        replace H := ipf H
        obtain rfl := oin H
        have p505 : 0 ≤ (x90_3 : Int) := od
        have q505 : x90_3 < (l0_2.length : Int) := od
        obtain ⟨ad505, A505_0, c505_0, A505_3, c505_3, A505_4, c505_4, e505, hx505, hl505_0, hi505_0, hl505_3, hi505_3, hl505_4, hi505_4⟩ := att82 HR0_2.out x90_3 p505 q505
        cases e505
        replace hx505 := ox5 HB hx505
        have HR505_0 := Aside0.mk hi505_0
        have HC505_0 := Aside0.mk hl505_0
        clear hi505_0 hl505_0
        have HR505_3 := Aside0.mk hi505_3
        have HC505_3 := Aside0.mk hl505_3
        clear hi505_3 hl505_3
        have HR505_4 := Aside0.mk hi505_4
        have HC505_4 := Aside0.mk hl505_4
        clear hi505_4 hl505_4
        replace p505 := eq_true p505
        replace q505 := eq_true q505
        go_wp2_with (first | ((with_reducible refine gq 8 rfl ?_); (try (refine gate_guard (by rfl) ?_; dsimp only)); refine bx1 HB BK493 (N := 8) (cs := #[.slice none 0 0, .int .i64 0, .bool false, .slice none 0 0, .slice none 0 0]) (t := 82) ?_; clear HB BK493; intro gb506 w100 BK506 GE506 HB NB493_506 NB506_493 BK493; have hnb101 := NB506_493.out; have hnc101 := NB493_506.out; have hz102 := cs5_ BK506) | ((with_reducible refine gf 47 rfl ?_); refine gL 97 Tryz.func47 #[.agg #[.slice A505_0 ((rd_T82 l0_2 x90_3).f0).length c505_0, .int .i64 ((rd_T82 l0_2 x90_3).f1), .bool ((rd_T82 l0_2 x90_3).f2), .slice A505_3 ((rd_T82 l0_2 x90_3).f3).length c505_3, .slice A505_4 ((rd_T82 l0_2 x90_3).f4).length c505_4], .int .i64 (l0_2.length : Int)] ?_; (with_reducible refine (impl_ThreadOk.calls k3 _ _ ((rd_T82 l0_2 x90_3).f0) ((rd_T82 l0_2 x90_3).f1) ((rd_T82 l0_2 x90_3).f2) _ _ ((rd_T82 l0_2 x90_3).f3) _ _ ((rd_T82 l0_2 x90_3).f4) (l0_2.length : Int) false _ ?side1 HC505_0.out ?side3 HC505_3.out ?side5 HC505_4.out A84.out).mono ?_); (case side1 => exact Kd.C_below HR505_0.out (tb HB)); (case side3 => exact Kd.C_below HR505_3.out (tb HB)); (case side5 => exact Kd.C_below HR505_4.out (tb HB)); rintro e w103 ⟨rfl, hb⟩; refine ⟨_, rfl, ?_⟩; replace BK493 := bbf BK493 hb; replace BK506 := bbp5 BK506 hb; replace HB := bs HB hb; (try clear hb)))
        go_ret
        exact ⟨er, tb HB⟩
       replace H := ipt H
       obtain ⟨t508, A86, H⟩ := bn H
       try dsimp only at H
       cases t508
       case false =>
        replace H := ipf H
        obtain rfl := oin H
        have p505 : 0 ≤ (x90_3 : Int) := od
        have q505 : x90_3 < (l0_2.length : Int) := od
        obtain ⟨ad505, A505_0, c505_0, A505_3, c505_3, A505_4, c505_4, e505, hx505_0, hx505_1, hx505_2, hx505_3, hx505_4, hl505_0, hi505_0, hl505_3, hi505_3, hl505_4, hi505_4⟩ := at_T82 HR0_2.out x90_3 p505 q505
        cases e505
        replace hx505_0 := ox HB hx505_0
        replace hx505_1 := ox HB hx505_1
        replace hx505_2 := ox HB hx505_2
        replace hx505_3 := ox HB hx505_3
        replace hx505_4 := ox HB hx505_4
        have HR505_0 := Aside0.mk hi505_0
        have HC505_0 := Aside0.mk hl505_0
        clear hi505_0 hl505_0
        have HR505_3 := Aside0.mk hi505_3
        have HC505_3 := Aside0.mk hl505_3
        clear hi505_3 hl505_3
        have HR505_4 := Aside0.mk hi505_4
        have HC505_4 := Aside0.mk hl505_4
        clear hi505_4 hl505_4
        replace p505 := eq_true p505
        replace q505 := eq_true q505
        go_wp2_with (first | ((with_reducible refine gq 8 rfl ?_); (try (refine gate_guard (by rfl) ?_; dsimp only)); refine bx1 HB BK493 (N := 8) (cs := #[.slice none 0 0, .int .i64 0, .bool false, .slice none 0 0, .slice none 0 0]) (t := 82) ?_; clear HB BK493; intro gb506 w94 BK506 GE506 HB NB493_506 NB506_493 BK493; have hnb95 := NB506_493.out; have hnc95 := NB493_506.out; have hz96 := cs5_ BK506) | ((with_reducible refine gf 47 rfl ?_); refine gL 97 Tryz.func47 #[.agg #[.slice A505_0 ((rd_T82 l0_2 x90_3).f0).length c505_0, .int .i64 ((rd_T82 l0_2 x90_3).f1), .bool ((rd_T82 l0_2 x90_3).f2), .slice A505_3 ((rd_T82 l0_2 x90_3).f3).length c505_3, .slice A505_4 ((rd_T82 l0_2 x90_3).f4).length c505_4], .int .i64 (l0_2.length : Int)] ?_; (with_reducible refine (impl_ThreadOk.calls k3 _ _ ((rd_T82 l0_2 x90_3).f0) ((rd_T82 l0_2 x90_3).f1) ((rd_T82 l0_2 x90_3).f2) _ _ ((rd_T82 l0_2 x90_3).f3) _ _ ((rd_T82 l0_2 x90_3).f4) (l0_2.length : Int) true _ ?side1 HC505_0.out ?side3 HC505_3.out ?side5 HC505_4.out A84.out).mono ?_); (case side1 => exact Kd.C_below HR505_0.out (tb HB)); (case side3 => exact Kd.C_below HR505_3.out (tb HB)); (case side5 => exact Kd.C_below HR505_4.out (tb HB)); rintro e w97 ⟨rfl, hb⟩; refine ⟨_, rfl, ?_⟩; replace BK493 := bbf BK493 hb; replace BK506 := bbp5 BK506 hb; replace HB := bs HB hb; (try clear hb); have hz98 := cs8_ BK493) | (go_at_call 96; (with_reducible refine (impl_callsOk.calls k3 _ _ l0_0 _ _ l0_1 _ _ l0_2 a0_3 _ _ l0_4 _ _ l0_5 _ _ l0_6 a0_7 x90_3 false _ (kc HR0_0 HB) HC0_0.out (kc HR0_1 HB) HC0_1.out (kc HR0_2 HB) HC0_2.out (kc HR0_4 HB) HC0_4.out (kc HR0_5 HB) HC0_5.out (kc HR0_6 HB) HC0_6.out A86.out).mono ?_); rintro e w99 ⟨rfl, hb⟩; replace BK493 := bb BK493 hb; replace BK506 := bb BK506 hb; replace HB := bs HB hb; (try clear hb)))
        go_ret
        exact ⟨er, tb HB⟩
       replace H := ipt H
       have H' := Aside0.mk H
       clear H
       have p505 : 0 ≤ (x90_3 : Int) := od
       have q505 : x90_3 < (l0_2.length : Int) := od
       obtain ⟨ad505, A505_0, c505_0, A505_3, c505_3, A505_4, c505_4, e505, hx505_0, hx505_1, hx505_2, hx505_3, hx505_4, hl505_0, hi505_0, hl505_3, hi505_3, hl505_4, hi505_4⟩ := at_T82 HR0_2.out x90_3 p505 q505
       cases e505
       replace hx505_0 := ox HB hx505_0
       replace hx505_1 := ox HB hx505_1
       replace hx505_2 := ox HB hx505_2
       replace hx505_3 := ox HB hx505_3
       replace hx505_4 := ox HB hx505_4
       have HR505_0 := Aside0.mk hi505_0
       have HC505_0 := Aside0.mk hl505_0
       clear hi505_0 hl505_0
       have HR505_3 := Aside0.mk hi505_3
       have HC505_3 := Aside0.mk hl505_3
       clear hi505_3 hl505_3
       have HR505_4 := Aside0.mk hi505_4
       have HC505_4 := Aside0.mk hl505_4
       clear hi505_4 hl505_4
       replace p505 := eq_true p505
       replace q505 := eq_true q505
       go_wp2_with (first | ((with_reducible refine gq 8 rfl ?_); (try (refine gate_guard (by rfl) ?_; dsimp only)); refine bx1 HB BK493 (N := 8) (cs := #[.slice none 0 0, .int .i64 0, .bool false, .slice none 0 0, .slice none 0 0]) (t := 82) ?_; clear HB BK493; intro gb506 w88 BK506 GE506 HB NB493_506 NB506_493 BK493; have hnb89 := NB506_493.out; have hnc89 := NB493_506.out; have hz90 := cs5_ BK506) | ((with_reducible refine gf 47 rfl ?_); refine gL 97 Tryz.func47 #[.agg #[.slice A505_0 ((rd_T82 l0_2 x90_3).f0).length c505_0, .int .i64 ((rd_T82 l0_2 x90_3).f1), .bool ((rd_T82 l0_2 x90_3).f2), .slice A505_3 ((rd_T82 l0_2 x90_3).f3).length c505_3, .slice A505_4 ((rd_T82 l0_2 x90_3).f4).length c505_4], .int .i64 (l0_2.length : Int)] ?_; (with_reducible refine (impl_ThreadOk.calls k3 _ _ ((rd_T82 l0_2 x90_3).f0) ((rd_T82 l0_2 x90_3).f1) ((rd_T82 l0_2 x90_3).f2) _ _ ((rd_T82 l0_2 x90_3).f3) _ _ ((rd_T82 l0_2 x90_3).f4) (l0_2.length : Int) true _ ?side1 HC505_0.out ?side3 HC505_3.out ?side5 HC505_4.out A84.out).mono ?_); (case side1 => exact Kd.C_below HR505_0.out (tb HB)); (case side3 => exact Kd.C_below HR505_3.out (tb HB)); (case side5 => exact Kd.C_below HR505_4.out (tb HB)); rintro e w91 ⟨rfl, hb⟩; refine ⟨_, rfl, ?_⟩; replace BK493 := bbf BK493 hb; replace BK506 := bbp5 BK506 hb; replace HB := bs HB hb; (try clear hb); have hz92 := cs8_ BK493) | (go_at_call 96; (with_reducible refine (impl_callsOk.calls k3 _ _ l0_0 _ _ l0_1 _ _ l0_2 a0_3 _ _ l0_4 _ _ l0_5 _ _ l0_6 a0_7 x90_3 true _ (kc HR0_0 HB) HC0_0.out (kc HR0_1 HB) HC0_1.out (kc HR0_2 HB) HC0_2.out (kc HR0_4 HB) HC0_4.out (kc HR0_5 HB) HC0_5.out (kc HR0_6 HB) HC0_6.out A86.out).mono ?_); rintro e w93 ⟨rfl, hb⟩; replace BK493 := bb BK493 hb; replace BK506 := bb BK506 hb; replace HB := bs HB hb; (try clear hb)))
       go_roundg k3
       case measure => have := HJ1.out; have := HK2.out; have := HK3.out; omega
       case rel => exact ⟨(wrap64 (x90_3 + 1)), rsd, H', ⟨by have := HJ1.out; have := HK2.out; have := HK3.out; omega⟩, ⟨by (with_reducible repeat (first | refine blk_drewN ?_ _ | refine blk_drew ?_ | refine blk_alloc ?_ _)); exact BK493.out⟩, ⟨tb HB⟩⟩
end Go.Proofs.YtopikhjcbcpiaaaGreat.Q
section
namespace Go.Proofs.YtopikhjcbcpiaaaGreat.Q
open Go.RowKit Go.Proofs.YtopikhjcbcpiaaaGreatW.PrintWords Go.Proofs.YtopikhjcbcpiaaaGreatX
theorem ev_any {α : Type} {p : Nat → α → Option Bool} {q : α → Bool} : ∀ l : List α, (∀ x ∈ l, Ev (fun k => p k x) (q x)) → Ev (fun k => anyO (p k) l) (l.any q)
  | [], _ => Ev.now false
  | x :: xs, h => by
    have ih := ev_any xs (fun y hy => h y (List.mem_cons_of_mem _ hy))
    show Ev (fun k => (p k x).bind fun b => if b = true then some true else anyO (p k) xs) _
    refine Ev.bind (f := fun k b => if b = true then some true else anyO (p k) xs) (h x List.mem_cons_self) ?_
    cases hq : q x with
    | true => simp only [if_true]; exact ev_to (Ev.now true) (by simp [hq])
    | false => simp only [Bool.false_eq_true, if_false]; exact ev_to ih (by simp [hq])
theorem any_eq {α : Type} {p : α → Option Bool} {q : α → Bool} : ∀ l : List α, (∀ x ∈ l, p x = some (q x)) → anyO p l = some (l.any q)
  | [], _ => rfl
  | x :: xs, h => by
    have ih := any_eq xs (fun y hy => h y (List.mem_cons_of_mem _ hy))
    unfold anyO
    rw [h x List.mem_cons_self, Option.bind_some, ih]
    cases hq : q x <;> simp [hq]
theorem ev_all {α : Type} {g : Nat → Int → Option Bool} (l : List α) (z : α) (q : α → Bool) (rest : Bool)
    (hstep : ∀ i : Nat, i < l.length → (q (l.getD i z) = true → ∀ r, Ev (fun k => g k ((i + 1 : Nat) : Int)) r → Ev (fun k => g k (i : Int)) r) ∧ (q (l.getD i z) = false → Ev (fun k => g k (i : Int)) false))
    (hend : Ev (fun k => g k (l.length : Int)) rest) : Ev (fun k => g k 0) (l.all q && rest) := by
  have key := ev_down (g := g) (R := fun i => (l.drop i).all q && rest) (n := l.length) (fun i hi h => ?_) 0 (by omega)
  · simpa using key
  · by_cases hlt : i < l.length
    · have e : l.getD i z = l[i] := by simp [List.getD_eq_getElem?_getD, List.getElem?_eq_getElem hlt]
      have hs := hstep i hlt
      rw [e] at hs
      have hd : (l.drop i).all q = (q l[i] && (l.drop (i + 1)).all q) := by rw [List.drop_eq_getElem_cons hlt, List.all_cons]
      rw [hd]
      cases hq : q l[i] with
      | true => exact ev_to (hs.1 hq _ (h hlt)) (by simp)
      | false => exact ev_to (hs.2 hq) (by simp)
    · obtain rfl : i = l.length := by omega
      exact ev_to hend (by simp)
def gotB (x : S145) : Bool := inB x.f0 0 19 && inB x.f1 0 1000
def stackB (n : Int) (x : S42) : Bool := decide (0 ≤ x.f0) && decide (x.f0 < n) && inB x.f1 1 1000000 && inB x.f2 0 20 && inB x.f3 0 20
def threadB (ops : List S132) (pc : Int) (on : Bool) (got : List S145) (stack : List S42) (n : Int) : Bool :=
  decide (ops.length ≤ 8) && inB pc 0 ops.length && (if on then decide (pc < ops.length) else decide (got.length + stack.length = 0)) && decide (got.length ≤ 12) && decide (stack.length ≤ 2) &&
  (ops.all (fun o => opOkB o.f0 o.f1 o.f2) && (got.all gotB && stack.all (stackB n)))
theorem ev_spec_l2 (ops : List S132) (pc : Int) (on : Bool) (got : List S145) (stack : List S42) (n : Int) (h : stack.length ≤ 1048576) :
    Ev (fun k => spec_ThreadOk.l2 k n 0 ops pc on got stack) (stack.all (stackB n)) := by
  refine ev_to (ev_all (g := fun k i => spec_ThreadOk.l2 k n i ops pc on got stack) stack z42 (stackB n) true (fun i hi => ?_) ?_) (by simp)
  · have e : rd_T42 stack (i : Int) = stack.getD i z42 := rfl
    generalize hx : stack.getD i z42 = x at e ⊢
    constructor
    · intro hq r hr
      unfold stackB at hq
      simp only [Bool.and_eq_true, decide_eq_true_eq] at hq
      obtain ⟨⟨⟨⟨h0, h1⟩, h2⟩, h3⟩, h4⟩ := hq
      refine Ev.step (fun k => ?_) hr
      simp only [spec_ThreadOk.l2, l1In_eq, Option.bind_some, e, h2, h3, h4]
      rw [if_pos (by omega), if_pos (by omega), if_neg (by omega), if_neg (by omega), wrap_succ hi (by omega)]
      simp
    · intro hq
      refine ev_succ (fun k => ?_)
      simp only [spec_ThreadOk.l2, l1In_eq, Option.bind_some, e]
      rw [if_pos (by omega), if_pos (by omega)]
      unfold stackB at hq
      by_cases a0 : x.f0 < 0
      · rw [if_pos a0]
      · rw [if_neg a0]
        by_cases a1 : x.f0 ≥ n
        · rw [if_pos a1]
        · rw [if_neg a1]
          cases h2 : inB x.f1 1 1000000 <;> cases h3 : inB x.f2 0 20 <;> cases h4 : inB x.f3 0 20 <;> simp_all <;> omega
  · refine ev_succ (fun k => ?_)
    simp only [spec_ThreadOk.l2]
    rw [if_neg (by omega)]
theorem ev_spec_l1 (ops : List S132) (pc : Int) (on : Bool) (got : List S145) (stack : List S42) (n : Int) (hg : got.length ≤ 1048576) (h : stack.length ≤ 1048576) :
    Ev (fun k => spec_ThreadOk.l1 k n 0 ops pc on got stack) (got.all gotB && stack.all (stackB n)) := by
  refine ev_all (g := fun k i => spec_ThreadOk.l1 k n i ops pc on got stack) got z145 gotB _ (fun i hi => ?_) ?_
  · have e : rd_T145 got (i : Int) = got.getD i z145 := rfl
    generalize hx : got.getD i z145 = x at e ⊢
    constructor
    · intro hq r hr
      unfold gotB at hq
      simp only [Bool.and_eq_true] at hq
      refine Ev.step (fun k => ?_) hr
      simp only [spec_ThreadOk.l1, l1In_eq, Option.bind_some, e, hq.1, hq.2]
      rw [if_pos (by omega), if_pos (by omega), wrap_succ hi (by omega)]
      simp
    · intro hq
      refine ev_succ (fun k => ?_)
      simp only [spec_ThreadOk.l1, l1In_eq, Option.bind_some, e]
      rw [if_pos (by omega), if_pos (by omega)]
      unfold gotB at hq
      cases h2 : inB x.f0 0 19 <;> cases h3 : inB x.f1 0 1000 <;> simp_all
  · refine Ev.step (fun k => ?_) (ev_spec_l2 ops pc on got stack n h)
    simp only [spec_ThreadOk.l1]
    rw [if_neg (by omega)]
theorem ev_spec_l0 (ops : List S132) (pc : Int) (on : Bool) (got : List S145) (stack : List S42) (n : Int) (ho : ops.length ≤ 1048576) (hg : got.length ≤ 1048576) (h : stack.length ≤ 1048576) :
    Ev (fun k => spec_ThreadOk.l0 k n 0 ops pc on got stack) (ops.all (fun o => opOkB o.f0 o.f1 o.f2) && (got.all gotB && stack.all (stackB n))) := by
  refine ev_all (g := fun k i => spec_ThreadOk.l0 k n i ops pc on got stack) ops z132 (fun o => opOkB o.f0 o.f1 o.f2) _ (fun i hi => ?_) ?_
  · have e : rd_T132 ops (i : Int) = ops.getD i z132 := rfl
    generalize hx : ops.getD i z132 = x at e ⊢
    have hev := ev_spec_OpOk x.f0 x.f1 x.f2
    constructor
    · intro hq r hr
      rw [hq] at hev
      refine Ev.step (fun k => ?_) (Ev.bind (f := fun k b => if b = true then spec_ThreadOk.l0 k n ((i + 1 : Nat) : Int) ops pc on got stack else some false) hev (by simpa using hr))
      simp only [spec_ThreadOk.l0, e]
      rw [if_pos (by omega), if_pos (by omega), wrap_succ hi (by omega)]
    · intro hq
      rw [hq] at hev
      refine Ev.step (fun k => ?_) (Ev.bind (f := fun k b => if b = true then spec_ThreadOk.l0 k n ((i + 1 : Nat) : Int) ops pc on got stack else some false) hev (by simpa using Ev.now false))
      simp only [spec_ThreadOk.l0, e]
      rw [if_pos (by omega), if_pos (by omega), wrap_succ hi (by omega)]
  · refine Ev.step (fun k => ?_) (ev_spec_l1 ops pc on got stack n hg h)
    simp only [spec_ThreadOk.l0]
    rw [if_neg (by omega)]
theorem ev_spec_j0 (b : Bool) (ops : List S132) (pc : Int) (on : Bool) (got : List S145) (stack : List S42) (n : Int) (ho : ops.length ≤ 1048576) (hg : got.length ≤ 1048576) (h : stack.length ≤ 1048576) :
    Ev (fun k => spec_ThreadOk.j0 k n b ops pc on got stack) (!b && (ops.all (fun o => opOkB o.f0 o.f1 o.f2) && (got.all gotB && stack.all (stackB n)))) := by
  cases b with
  | true => exact ev_succ (fun k => by simp [spec_ThreadOk.j0])
  | false => exact ev_to (Ev.step (fun k => by simp [spec_ThreadOk.j0]) (ev_spec_l0 ops pc on got stack n ho hg h)) (by simp)
theorem ev_spec_ThreadOk (ops : List S132) (pc : Int) (on : Bool) (got : List S145) (stack : List S42) (n : Int) (ho : ops.length ≤ 1048576) (hg : got.length ≤ 1048576) (h : stack.length ≤ 1048576) :
    Ev (fun k => spec_ThreadOk.f k ops pc on got stack n) (threadB ops pc on got stack n) := by
  have J := fun b => ev_spec_j0 b ops pc on got stack n ho hg h
  unfold threadB
  generalize (ops.all (fun o => opOkB o.f0 o.f1 o.f2) && (got.all gotB && stack.all (stackB n))) = rest at J ⊢
  unfold spec_ThreadOk.f
  simp only [l1In_eq, Option.bind_some]
  refine ev_ite (fun c => ev_to (J true) ?_) (fun c => ?_)
  · have : ¬ ops.length ≤ 8 := by omega
    simp [this]
  have c8 : ops.length ≤ 8 := by omega
  cases hp : inB pc 0 (ops.length : Int) with
  | false => exact ev_neg (by simp) (ev_to (J true) (by simp))
  | true =>
    refine ev_pos (by simp) ?_
    cases on with
    | true =>
      refine ev_pos rfl (ev_ite (fun c1 => ev_to (J true) ?_) (fun c1 => ev_ite (fun c2 => ev_to (J true) ?_) (fun c2 => ev_to (J _) ?_)))
      · have : ¬ pc < (ops.length : Int) := by omega
        simp [this]
      · have : ¬ got.length ≤ 12 := by omega
        simp [this]
      · have e1 : pc < (ops.length : Int) := by omega
        have e2 : got.length ≤ 12 := by omega
        by_cases c3 : (stack.length : Int) > 2
        · have : ¬ stack.length ≤ 2 := by omega
          simp [c3, this]
        · have : stack.length ≤ 2 := by omega
          simp [c3, this, e1, e2, c8]
    | false =>
      refine ev_neg (by simp) ?_
      rw [wrap_in (by omega) (by omega)]
      refine ev_ite (fun c1 => ev_to (J true) ?_) (fun c1 => ev_ite (fun c2 => ev_to (J true) ?_) (fun c2 => ev_to (J _) ?_))
      · have : ¬ got.length + stack.length = 0 := by omega
        simp only [Bool.false_eq_true, if_false, decide_eq_false this]
        simp
      · have : ¬ got.length ≤ 12 := by omega
        simp [this]
      · have e1 : got.length + stack.length = 0 := by omega
        have e2 : got.length ≤ 12 := by omega
        have e3 : stack.length ≤ 2 := by omega
        have c3 : ¬ (stack.length : Int) > 2 := by omega
        simp only [Bool.false_eq_true, if_false, decide_eq_true e1, decide_eq_true e2, decide_eq_true e3, decide_eq_true c8, decide_eq_false c3]
        simp
theorem ev_impl_j1 (b : Bool) (ops : List S132) (pc : Int) (on : Bool) (got : List S145) (stack : List S42) (n : Int) (hn : -9223372036854775808 < n) (hn' : n ≤ 9223372036854775807) :
    Ev (fun k => impl_ThreadOk.j1 k b ops pc on got stack n) (!b && (got.all gotB && stack.all (stackB n))) := by
  have h2 : impl_ThreadOk_2_any.f got = some (got.any fun x => !gotB x) := by
    unfold impl_ThreadOk_2_any.f
    refine any_eq _ (fun x _ => ?_)
    simp only [impl_ThreadOk_2.f, impl_isPlace.f, impl_isWordNum.f, from_eq, Option.bind_some, gotB]
    cases inB x.f0 0 19 <;> simp
  have h3 : impl_ThreadOk_3_any.f stack n = some (stack.any fun x => !stackB n x) := by
    unfold impl_ThreadOk_3_any.f
    refine any_eq _ (fun x _ => ?_)
    have e : inB x.f0 0 (wrap64 (n - 1)) = (decide (0 ≤ x.f0) && decide (x.f0 < n)) := by
      rw [wrap_in (by omega) (by omega)]
      unfold inB
      rw [Bool.eq_iff_iff]
      simp
      omega
    simp only [impl_ThreadOk_3.f, from_eq, Option.bind_some, stackB, e]
    cases (decide (0 ≤ x.f0) && decide (x.f0 < n)) <;> cases inB x.f1 1 1000000 <;> cases inB x.f2 0 20 <;> simp
  have e2 : got.all gotB = !(got.any fun x => !gotB x) := by simp [List.all_eq_not_any_not]
  have e3 : stack.all (stackB n) = !(stack.any fun x => !stackB n x) := by simp [List.all_eq_not_any_not]
  refine ev_succ (fun k => ?_)
  simp only [impl_ThreadOk.j1, h2, h3, Option.bind_some]
  rw [e2, e3]
  cases b <;> cases (got.any fun x => !gotB x) <;> simp
theorem ev_impl_j0 (b : Bool) (ops : List S132) (pc : Int) (on : Bool) (got : List S145) (stack : List S42) (n : Int) (hn : -9223372036854775808 < n) (hn' : n ≤ 9223372036854775807) (hg : got.length ≤ 1048576) (h : stack.length ≤ 1048576) :
    Ev (fun k => impl_ThreadOk.j0 k b ops pc on got stack n) (!b && ((on || decide (got.length + stack.length = 0)) && (got.all gotB && stack.all (stackB n)))) := by
  have J := fun b => ev_impl_j1 b ops pc on got stack n hn hn'
  cases b with
  | true => exact ev_succ (fun k => by simp [impl_ThreadOk.j0])
  | false =>
    cases on with
    | true => exact ev_to (Ev.step (fun k => by simp [impl_ThreadOk.j0]) (J false)) (by simp)
    | false =>
      refine ev_to (Ev.step (fun k => ?_) (J (decide ((got.length : Int) + (stack.length : Int) > 0)))) ?_
      · simp only [impl_ThreadOk.j0]
        rw [wrap_in (by omega) (by omega)]
        simp
      · have e : (!decide ((got.length : Int) + (stack.length : Int) > 0)) = decide (got.length + stack.length = 0) := by
          by_cases h0 : got.length + stack.length = 0
          · rw [decide_eq_true h0, decide_eq_false (by omega)]; rfl
          · rw [decide_eq_false h0, decide_eq_true (by omega)]; rfl
        rw [e]
        simp
theorem ev_impl_ThreadOk (ops : List S132) (pc : Int) (on : Bool) (got : List S145) (stack : List S42) (n : Int) (hn : -9223372036854775808 < n) (hn' : n ≤ 9223372036854775807) (hg : got.length ≤ 1048576) (h : stack.length ≤ 1048576) :
    Ev (fun k => impl_ThreadOk.f k ops pc on got stack n) (threadB ops pc on got stack n) := by
  have J := fun b => ev_impl_j0 b ops pc on got stack n hn hn' hg h
  have h1 : Ev (fun k => impl_ThreadOk_1_any.f k ops) (ops.any fun o => !opOkB o.f0 o.f1 o.f2) := by
    unfold impl_ThreadOk_1_any.f
    refine ev_any (p := fun k (x : S132) => impl_ThreadOk_1.f k x.f0 x.f1 x.f2) _ (fun x _ => ?_)
    unfold impl_ThreadOk_1.f
    exact Ev.bind (f := fun _ b => some (!b)) (ev_impl_OpOk _ _ _) (Ev.now _)
  have e1 : ops.all (fun o => opOkB o.f0 o.f1 o.f2) = !(ops.any fun o => !opOkB o.f0 o.f1 o.f2) := by simp [List.all_eq_not_any_not]
  unfold threadB
  rw [e1]
  generalize (got.all gotB && stack.all (stackB n)) = rest at J ⊢
  generalize (ops.any fun o => !opOkB o.f0 o.f1 o.f2) = bad at h1 ⊢
  unfold impl_ThreadOk.f
  refine ev_ite (fun c => ev_to (J true) ?_) (fun c => ?_)
  · have : ¬ ops.length ≤ 8 := by omega
    simp [this]
  have c8 : ops.length ≤ 8 := by omega
  refine Ev.bind (f := fun k b => if b = true then impl_ThreadOk.j0 k true ops pc on got stack n else _) h1 ?_
  cases bad with
  | true => exact ev_pos rfl (ev_to (J true) (by simp))
  | false =>
    refine ev_neg (by simp) ?_
    simp only [from_eq, Option.bind_some]
    cases hp : inB pc 0 (ops.length : Int) with
    | false => exact ev_neg (by simp) (ev_to (J true) (by simp))
    | true =>
      have hp' : 0 ≤ pc ∧ pc ≤ (ops.length : Int) := by simpa [inB] using hp
      refine ev_pos (by simp) ?_
      have last : ∀ b0 : Bool, (on = true → b0 = decide (pc < (ops.length : Int))) → (on = false → b0 = true) → Ev (fun k => if (got.length : Int) > 12 then impl_ThreadOk.j0 k true ops pc on got stack n else impl_ThreadOk.j0 k (decide ((stack.length : Int) > 2)) ops pc on got stack n) (decide (got.length ≤ 12) && decide (stack.length ≤ 2) && ((on || decide (got.length + stack.length = 0)) && rest)) := by
        intro b0 _ _
        refine ev_ite (fun c2 => ev_to (J true) ?_) (fun c2 => ev_to (J _) ?_)
        · have : ¬ got.length ≤ 12 := by omega
          simp [this]
        · have e2 : got.length ≤ 12 := by omega
          have e3 : (!decide ((stack.length : Int) > 2)) = decide (stack.length ≤ 2) := by
            rw [Bool.eq_iff_iff]; simp; omega
          rw [e3]
          simp [e2]
      cases on with
      | true =>
        refine ev_pos rfl (ev_ite (fun c1 => ev_to (J true) ?_) (fun c1 => ev_to (last true (by simp; omega) (by simp)) ?_))
        · have : ¬ pc < (ops.length : Int) := by omega
          simp [this]
        · have : pc < (ops.length : Int) := by omega
          simp [this, c8, Bool.and_assoc]
      | false =>
        refine ev_neg (by simp) (ev_to (last true (by simp) (by simp)) ?_)
        simp only [Bool.false_or, Bool.false_eq_true, if_false, decide_eq_true c8, Bool.true_and, Bool.not_false]
        cases decide (got.length + stack.length = 0) <;> cases decide (got.length ≤ 12) <;> cases decide (stack.length ≤ 2) <;> simp
end Go.Proofs.YtopikhjcbcpiaaaGreat.Q
end
