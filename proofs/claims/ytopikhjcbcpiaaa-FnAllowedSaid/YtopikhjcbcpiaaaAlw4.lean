/- Part 4 of the steps by which the law is shown: what each function of the program, of the reference and of the law computes. No condition. -/
import Derived.Test.YtopikhjcbcpiaaaAlw3
namespace Go.Proofs.Ytopikhjcbcpiaaa.Q
open Go.RowKit Go.Proofs.YtopikhjcbcpiaaaW.PrintWords Go.Proofs.YtopikhjcbcpiaaaW.PrintLast Go.Proofs.YtopikhjcbcpiaaaW.PrintMore
attribute [local go_sem] max2_int min2_int max_two min_two max_three min_three max_four min_four   -- for this text's walks alone
set_option linter.unusedVariables false
set_option linter.unusedSimpArgs false
mutual
def spec_l4DrawRes.j0 : Nat → Bool → List Int → Int → Int → List Int → Int → Int → Int → Int → Option (Int × List Int × Int × Int)
 | 0, _, _, _, _, _, _, _, _, _ => none
 | k + 1, x20, x1000, x1001, x1002, x821000, x821001, x822000, x822001, x822002 => if x20 = true then ((spec_l4Done.f k x821000 x821001 x822000 x822001 x822002).bind fun bt828 => (if bt828.2 = true then (some (0, bt828.1, x1001, x1002)) else (spec_l4DrawRes.j1 k x1000 x1001 x1002))) else (spec_l4DrawRes.j1 k x1000 x1001 x1002)
def spec_l4DrawRes.j1 : Nat → List Int → Int → Int → Option (Int × List Int × Int × Int)
 | 0, _, _, _ => none
 | k + 1, x1000, x1001, x1002 => (spec_l1Below.f x1000 x1001 x1002 7).bind fun bt832 => ((spec_l1Once.f x1000 bt832.2.1 bt832.2.2 4).bind fun bt836 => (if bt836.1 = true then ((spec_l1Below.f x1000 bt836.2.1 bt836.2.2 4).bind fun bt839 => (some (wrap64 (bt832.1 - 1), (([bt839.1] : List Int)), bt839.2.1, bt839.2.2))) else (some (wrap64 (bt832.1 - 1), ([] : List Int), bt836.2.1, bt836.2.2))))
end
def spec_l4DrawRes.f (k : Nat) (s0_0 : List Int) (s0_1 : Int) (s0_2 : Int) (l1_0 : List Int) (a1_1 : Int) (a2_0 : Int) (a2_1 : Int) (a2_2 : Int) : Option (Int × List Int × Int × Int) := (spec_RowsOk.f k l1_0 a1_1).bind fun t823 => (if t823 = true then ((spec_OpOk.f k a2_0 a2_1 a2_2).bind fun t824 => (if t824 = true then ((spec_l1Once.f s0_0 s0_1 s0_2 3).bind fun bt825 => (spec_l4DrawRes.j0 k (!bt825.1) s0_0 bt825.2.1 bt825.2.2 l1_0 a1_1 a2_0 a2_1 a2_2)) else (spec_l4DrawRes.j0 k false s0_0 s0_1 s0_2 l1_0 a1_1 a2_0 a2_1 a2_2))) else (spec_l4DrawRes.j0 k false s0_0 s0_1 s0_2 l1_0 a1_1 a2_0 a2_1 a2_2))
theorem spec_l4DrawRes.mono_l : ∀ k, (∀ y0 y1 y2 y3 y4 y5 y6 y7 y8, LeO (spec_l4DrawRes.j0 k y0 y1 y2 y3 y4 y5 y6 y7 y8) (spec_l4DrawRes.j0 (k + 1) y0 y1 y2 y3 y4 y5 y6 y7 y8)) ∧ (∀ y0 y1 y2, LeO (spec_l4DrawRes.j1 k y0 y1 y2) (spec_l4DrawRes.j1 (k + 1) y0 y1 y2))
 | 0 => ⟨fun _ _ _ _ _ _ _ _ _ r h => by simp [spec_l4DrawRes.j0] at h, fun _ _ _ r h => by simp [spec_l4DrawRes.j1] at h⟩
 | k + 1 => by
  obtain ⟨ih0, ih1⟩ := spec_l4DrawRes.mono_l k
  refine ⟨?_, ?_⟩
  ·intro y0 y1 y2 y3 y4 y5 y6 y7 y8
   unfold spec_l4DrawRes.j0
   repeat' first
   | (with_reducible exact ih0 _ _ _ _ _ _ _ _ _)
   | (with_reducible exact ih1 _ _ _)
   | (with_reducible exact spec_OpOk.mono _ _ _ _)
   | (with_reducible exact spec_RowsOk.mono _ _ _)
   | (with_reducible exact spec_l4Done.mono _ _ _ _ _ _)
   | (with_reducible exact LeO.refl _)
   | (with_reducible exact LeO.none _)
   | (with_reducible refine LeO.ite ?_ ?_)
   | (with_reducible refine LeO.bind ?_ (fun _ => ?_))
   | exact ih0 _ _ _ _ _ _ _ _ _
   | exact ih1 _ _ _
   | exact spec_OpOk.mono _ _ _ _
   | exact spec_RowsOk.mono _ _ _
   | exact spec_l4Done.mono _ _ _ _ _ _
   | exact LeO.none _
   | refine LeO.ite ?_ ?_
   | refine LeO.bind ?_ (fun _ => ?_)
  ·intro y0 y1 y2
   unfold spec_l4DrawRes.j1
   repeat' first
   | (with_reducible exact ih0 _ _ _ _ _ _ _ _ _)
   | (with_reducible exact ih1 _ _ _)
   | (with_reducible exact spec_OpOk.mono _ _ _ _)
   | (with_reducible exact spec_RowsOk.mono _ _ _)
   | (with_reducible exact spec_l4Done.mono _ _ _ _ _ _)
   | (with_reducible exact LeO.refl _)
   | (with_reducible exact LeO.none _)
   | (with_reducible refine LeO.ite ?_ ?_)
   | (with_reducible refine LeO.bind ?_ (fun _ => ?_))
   | exact ih0 _ _ _ _ _ _ _ _ _
   | exact ih1 _ _ _
   | exact spec_OpOk.mono _ _ _ _
   | exact spec_RowsOk.mono _ _ _
   | exact spec_l4Done.mono _ _ _ _ _ _
   | exact LeO.none _
   | refine LeO.ite ?_ ?_
   | refine LeO.bind ?_ (fun _ => ?_)
theorem spec_l4DrawRes.mono : ∀ a0 a1 a2 a3 a4 a5 a6 a7 k, LeO (spec_l4DrawRes.f k a0 a1 a2 a3 a4 a5 a6 a7) (spec_l4DrawRes.f (k + 1) a0 a1 a2 a3 a4 a5 a6 a7) := by
 intro a0 a1 a2 a3 a4 a5 a6 a7 k
 obtain ⟨ih0, ih1⟩ := spec_l4DrawRes.mono_l k
 unfold spec_l4DrawRes.f
 repeat' first
   | (with_reducible exact ih0 _ _ _ _ _ _ _ _ _)
   | (with_reducible exact ih1 _ _ _)
   | (with_reducible exact spec_OpOk.mono _ _ _ _)
   | (with_reducible exact spec_RowsOk.mono _ _ _)
   | (with_reducible exact spec_l4Done.mono _ _ _ _ _ _)
   | (with_reducible exact LeO.refl _)
   | (with_reducible exact LeO.none _)
   | (with_reducible refine LeO.ite ?_ ?_)
   | (with_reducible refine LeO.bind ?_ (fun _ => ?_))
   | exact ih0 _ _ _ _ _ _ _ _ _
   | exact ih1 _ _ _
   | exact spec_OpOk.mono _ _ _ _
   | exact spec_RowsOk.mono _ _ _
   | exact spec_l4Done.mono _ _ _ _ _ _
   | exact LeO.none _
   | refine LeO.ite ?_ ?_
   | refine LeO.bind ?_ (fun _ => ?_)
set_option maxHeartbeats 8000000 in
set_option maxRecDepth 100000 in
theorem spec_l4DrawRes.calls (k : Nat) (g : Nat) (s0_0 : List Int) (s0_1 : Int) (s0_2 : Int) (A1_0 : Option Addr) (c1_0 : Nat) (l1_0 : List Int) (a1_1 : Int) (a2_0 : Int) (a2_1 : Int) (a2_2 : Int) (r1 : Int) (r2 : List Int) (r3 : Int) (r4 : Int) (w0 w : World) (hI : IsS197 w0 w g s0_0 s0_1 s0_2) (hB : Below w0.heap.size w0 w) (hr1_0 : Kd.C (Kd.int .i64) w A1_0 l1_0.length l1_0) (hc1_0 : l1_0.length ≤ c1_0) (hf1_0 : ∀ ad, A1_0 = some ad → 0 < l1_0.length → ad.block ≠ g) (h : spec_l4DrawRes.f k s0_0 s0_1 s0_2 l1_0 a1_1 a2_0 a2_1 a2_2 = some (r1, r2, r3, r4)) :
  Calls Try.prog 108 #[.pointer (some ⟨g, 0, none⟩), .agg #[.slice A1_0 l1_0.length c1_0, .int .i64 a1_1], .agg #[.int .i64 a2_0, .int .i64 a2_1, .int .i64 a2_2]] w fun e w' => ∃ v1_ : Value, e = .returned (.agg #[.int .i64 r1, v1_]) ∧ Kd.R (Kd.int .i64) 3 w' w.heap.size (fun _ => True) v1_ r2 ∧ IsS197 w0 w' g s0_0 r3 r4 ∧ Below w0.heap.size w0 w' ∧ KeepBut w w' g none := by
 have hu65 := Try.underlying65
 have hu68 := Try.underlying68
 have hu70 := Try.underlying70
 have HR1_0 := Aside0.mk hr1_0
 have HC1_0 := Aside0.mk hc1_0
 clear hr1_0 hc1_0
 have HI0 := Aside0.mk hI
 have HK := Aside0.mk (KeepBut.refl w g none)
 have HL := Aside0.mk hB.size
 clear hI
 have HW0 := Aside0.mk hB.size
 have HB := Aside0.mk hB
 clear hB
 have H : ((spec_RowsOk.f k l1_0 a1_1).bind fun t823 => (if t823 = true then ((spec_OpOk.f k a2_0 a2_1 a2_2).bind fun t824 => (if t824 = true then ((spec_l1Once.f s0_0 s0_1 s0_2 3).bind fun bt825 => (spec_l4DrawRes.j0 k (!bt825.1) s0_0 bt825.2.1 bt825.2.2 l1_0 a1_1 a2_0 a2_1 a2_2)) else (spec_l4DrawRes.j0 k false s0_0 s0_1 s0_2 l1_0 a1_1 a2_0 a2_1 a2_2))) else (spec_l4DrawRes.j0 k false s0_0 s0_1 s0_2 l1_0 a1_1 a2_0 a2_1 a2_2))) = some (r1, r2, r3, r4) := h
 clear h
 have HC4 := Aside0.mk H
 clear H
 go_enter Try.func108, Try.ntmps108
 go_upto_region 1 with (first | ((with_reducible refine gate_dst (N := 4) rfl ?_); refine bx (N := 4) (cs := #[.slice A1_0 l1_0.length c1_0, .int .i64 a1_1]) (t := 65) ?_; intro gb820 hg w5 hbox hb; replace HB := Aside0.mk (below_step (IsS197.tb HB) hb); have BK820 := Aside0.mk (hbox); have GW820 := Aside0.mk ((by rw [hg]; exact (keep_size (w := w) (g := g) (row := none) (kp HK)) : w.heap.size ≤ gb820)); have GE820 := Aside0.mk ((Nat.le_trans HW0.out (by rw [hg]; exact (keep_size (w := w) (g := g) (row := none) (kp HK)) : w.heap.size ≤ gb820) : w0.heap.size ≤ gb820)); replace HK := Aside0.mk (KeepBut.trans (kp HK) (KeepBut.of_below hb g none) (.inl rfl)); have NB0_820 := Aside0.mk ((by rw [hg]; exact Nat.ne_of_lt (IsS197.lt (show IsS197 w0 _ g s0_0 s0_1 s0_2 from IsS197.go HI0)) : g ≠ gb820)); have NB820_0 := Aside0.mk ((by rw [hg]; exact Nat.ne_of_gt (IsS197.lt (show IsS197 w0 _ g s0_0 s0_1 s0_2 from IsS197.go HI0)) : gb820 ≠ g)); replace HI0 := Aside0.mk (IsS197.below (IsS197.go HI0) hb); clear hb hbox hg) | ((with_reducible refine gate_dst (N := 5) rfl ?_); refine bx (N := 5) (cs := #[.int .i64 a2_0, .int .i64 a2_1, .int .i64 a2_2]) (t := 68) ?_; intro gb821 hg w6 hbox hb; replace HB := Aside0.mk (below_step (IsS197.tb HB) hb); have BK821 := Aside0.mk (hbox); have GW821 := Aside0.mk ((by rw [hg]; exact (keep_size (w := w) (g := g) (row := none) (kp HK)) : w.heap.size ≤ gb821)); have GE821 := Aside0.mk ((Nat.le_trans HW0.out (by rw [hg]; exact (keep_size (w := w) (g := g) (row := none) (kp HK)) : w.heap.size ≤ gb821) : w0.heap.size ≤ gb821)); replace HK := Aside0.mk (KeepBut.trans (kp HK) (KeepBut.of_below hb g none) (.inl rfl)); have NB820_821 := Aside0.mk (nl_ hg BK820); have NB821_820 := Aside0.mk (ng_ hg BK820); replace BK820 := bb BK820 hb; have NB0_821 := Aside0.mk ((by rw [hg]; exact Nat.ne_of_lt (IsS197.lt (show IsS197 w0 _ g s0_0 s0_1 s0_2 from IsS197.go HI0)) : g ≠ gb821)); have NB821_0 := Aside0.mk ((by rw [hg]; exact Nat.ne_of_gt (IsS197.lt (show IsS197 w0 _ g s0_0 s0_1 s0_2 from IsS197.go HI0)) : gb821 ≠ g)); replace HI0 := Aside0.mk (IsS197.below (IsS197.go HI0) hb); clear hb hbox hg) | ((with_reducible refine gate_dst (N := 6) rfl ?_); refine bx (N := 6) (cs := #[.int .i64 0, .slice none 0 0]) (t := 70) ?_; intro gb822 hg w7 hbox hb; replace HB := Aside0.mk (below_step (IsS197.tb HB) hb); have BK822 := Aside0.mk (hbox); have GW822 := Aside0.mk ((by rw [hg]; exact (keep_size (w := w) (g := g) (row := none) (kp HK)) : w.heap.size ≤ gb822)); have GE822 := Aside0.mk ((Nat.le_trans HW0.out (by rw [hg]; exact (keep_size (w := w) (g := g) (row := none) (kp HK)) : w.heap.size ≤ gb822) : w0.heap.size ≤ gb822)); replace HK := Aside0.mk (KeepBut.trans (kp HK) (KeepBut.of_below hb g none) (.inl rfl)); have NB820_822 := Aside0.mk (nl_ hg BK820); have NB822_820 := Aside0.mk (ng_ hg BK820); replace BK820 := bb BK820 hb; have NB821_822 := Aside0.mk (nl_ hg BK821); have NB822_821 := Aside0.mk (ng_ hg BK821); replace BK821 := bb BK821 hb; have NB0_822 := Aside0.mk ((by rw [hg]; exact Nat.ne_of_lt (IsS197.lt (show IsS197 w0 _ g s0_0 s0_1 s0_2 from IsS197.go HI0)) : g ≠ gb822)); have NB822_0 := Aside0.mk ((by rw [hg]; exact Nat.ne_of_gt (IsS197.lt (show IsS197 w0 _ g s0_0 s0_1 s0_2 from IsS197.go HI0)) : gb822 ≠ g)); replace HI0 := Aside0.mk (IsS197.below (IsS197.go HI0) hb); clear hb hbox hg))
 (try simp only [Act.put, sA, sB, sC])
 go_cut [20] (fun v20 wc => ∃ (kq : Nat) (x20_3 : Bool) (x1001_3 : Int) (x1002_3 : Int), v20 = .bool x20_3 ∧ Aside0 (spec_l4DrawRes.j0 kq x20_3 s0_0 x1001_3 x1002_3 l1_0 a1_1 a2_0 a2_1 a2_2 = some (r1, r2, r3, r4)) ∧ Aside0 (kq ≤ k) ∧ Aside0 (wc.heap[gb820]? = some (.cells #[(.slice A1_0 l1_0.length c1_0), .int .i64 a1_1] 65 (0, 0))) ∧ Aside0 (wc.heap[gb821]? = some (.cells #[.int .i64 a2_0, .int .i64 a2_1, .int .i64 a2_2] 68 (0, 0))) ∧ Aside0 (wc.heap[gb822]? = some (.cells #[.int .i64 0, (.slice none 0 0)] 70 (0, 0))) ∧ Aside0 (IsS197 w0 wc g s0_0 x1001_3 x1002_3) ∧ Aside0 (KeepBut w wc g none) ∧ Aside0 (Below w0.heap.size w0 wc))
 case first =>
  have H := HC4.out
  clear HC4
  replace H := Option.bind_eq_some_iff.mp H
  obtain ⟨t823, A80, H⟩ := H
  replace H : (if t823 = true then ((spec_OpOk.f k a2_0 a2_1 a2_2).bind fun t824 => (if t824 = true then ((spec_l1Once.f s0_0 s0_1 s0_2 3).bind fun bt825 => (spec_l4DrawRes.j0 k (!bt825.1) s0_0 bt825.2.1 bt825.2.2 l1_0 a1_1 a2_0 a2_1 a2_2)) else (spec_l4DrawRes.j0 k false s0_0 s0_1 s0_2 l1_0 a1_1 a2_0 a2_1 a2_2))) else (spec_l4DrawRes.j0 k false s0_0 s0_1 s0_2 l1_0 a1_1 a2_0 a2_1 a2_2)) = some (r1, r2, r3, r4) := H
  have A8 := Aside0.mk A80
  clear A80
  by_cases c9 : t823 = true
  ·subst c9
   have H1 : ((spec_OpOk.f k a2_0 a2_1 a2_2).bind fun t824 => (if t824 = true then ((spec_l1Once.f s0_0 s0_1 s0_2 3).bind fun bt825 => (spec_l4DrawRes.j0 k (!bt825.1) s0_0 bt825.2.1 bt825.2.2 l1_0 a1_1 a2_0 a2_1 a2_2)) else (spec_l4DrawRes.j0 k false s0_0 s0_1 s0_2 l1_0 a1_1 a2_0 a2_1 a2_2))) = some (r1, r2, r3, r4) := by rw [if_pos rfl] at H; exact H
   clear H
   have H := H1
   clear H1
   replace H := Option.bind_eq_some_iff.mp H
   obtain ⟨t824, A100, H⟩ := H
   replace H : (if t824 = true then ((spec_l1Once.f s0_0 s0_1 s0_2 3).bind fun bt825 => (spec_l4DrawRes.j0 k (!bt825.1) s0_0 bt825.2.1 bt825.2.2 l1_0 a1_1 a2_0 a2_1 a2_2)) else (spec_l4DrawRes.j0 k false s0_0 s0_1 s0_2 l1_0 a1_1 a2_0 a2_1 a2_2)) = some (r1, r2, r3, r4) := H
   have A10 := Aside0.mk A100
   clear A100
   by_cases c11 : t824 = true
   ·subst c11
    have H1 : ((spec_l1Once.f s0_0 s0_1 s0_2 3).bind fun bt825 => (spec_l4DrawRes.j0 k (!bt825.1) s0_0 bt825.2.1 bt825.2.2 l1_0 a1_1 a2_0 a2_1 a2_2)) = some (r1, r2, r3, r4) := by rw [if_pos rfl] at H; exact H
    clear H
    have H := H1
    clear H1
    replace H := Option.bind_eq_some_iff.mp H
    obtain ⟨⟨t825, t826, t827⟩, A120, H⟩ := H
    replace H : (spec_l4DrawRes.j0 k (!t825) s0_0 t826 t827 l1_0 a1_1 a2_0 a2_1 a2_2) = some (r1, r2, r3, r4) := H
    have A12 := Aside0.mk A120
    clear A120
    have H' := Aside0.mk H
    clear H
    have hnb13 := NB820_821.out
    have hnc13 := NB821_820.out
    have hnb14 := NB820_822.out
    have hnc14 := NB822_820.out
    have hnb15 := NB820_0.out
    have hnc15 := NB0_820.out
    obtain ⟨hcz16_0, hcz16_1, hfz16_0, hfz16_1⟩ := c2 BK820
    go_wp2_with (first | ((with_reducible refine gate_callee (f := 115) rfl ?_); refine gL 11 Try.func115 #[.agg #[.slice A1_0 l1_0.length c1_0, .int .i64 a1_1]] ?_; (with_reducible refine (spec_RowsOk.calls k _ _ l1_0 a1_1 true _ ?side1 ?side2 A8.out).mono ?_); (case side1 => exact Kd.C_keep 0 HR1_0.out (kp HK) hf1_0); (case side2 => exact HC1_0.out); rintro e w17 ⟨rfl, hb⟩; refine ⟨_, rfl, ?_⟩; replace HI0 := Aside0.mk (IsS197.below (IsS197.go HI0) hb); replace BK820 := bb BK820 hb; replace BK821 := bb BK821 hb; replace BK822 := bb BK822 hb; replace HK := Aside0.mk (KeepBut.trans (kp HK) (KeepBut.of_below hb g none) (.inl rfl)); replace HB := Aside0.mk (below_step (IsS197.tb HB) hb); (try clear hb); (try clear hb2); (try clear hk); (try clear hi); have hnb18 := NB821_822.out; have hnc18 := NB822_821.out; have hnb19 := NB821_0.out; have hnc19 := NB0_821.out; obtain ⟨hcz20_0, hcz20_1, hcz20_2, hfz20_0, hfz20_1, hfz20_2⟩ := c3 BK821) | (go_at_call 54; (with_reducible refine (spec_OpOk.calls k a2_0 a2_1 a2_2 true _ A10.out).mono ?_); rintro e w21 ⟨rfl, hb⟩; replace HI0 := Aside0.mk (IsS197.below (IsS197.go HI0) hb); replace BK820 := bb BK820 hb; replace BK821 := bb BK821 hb; replace BK822 := bb BK822 hb; replace HK := Aside0.mk (KeepBut.trans (kp HK) (KeepBut.of_below hb g none) (.inl rfl)); replace HB := Aside0.mk (below_step (IsS197.tb HB) hb); (try clear hb); (try clear hb2); (try clear hk); (try clear hi)) | (go_at_call 114; (with_reducible refine (spec_l1Once.calls g s0_0 s0_1 s0_2 3 t825 t826 t827 w0 _ ?side1 ?side2 A12.out).mono ?_); (case side1 => repeat (first | (with_reducible first | exact HI0.out | apply IsS197.alloc | apply IsS197.drewN | apply IsS197.drew | apply IsS197.set_1 | apply IsS197.set_2 | refine IsS197.far ?_ NB0_820.out _ | refine IsS197.far ?_ NB0_821.out _ | refine IsS197.far ?_ NB0_822.out _) | exact HI0.out)); (case side2 => repeat (first | (with_reducible first | exact HB.out | apply below_alloc | apply pw_below_drewN | apply below_drew1 | refine below_set ?_ (IsS197.ge HI0.out) | refine below_set ?_ GE820.out | refine below_set ?_ GE821.out | refine below_set ?_ GE822.out) | exact HB.out)); rintro e w22 ⟨rfl, hi, hb, hk⟩; replace BK820 := Aside0.mk (KeepBut.blk hk (g' := gb820) (o := .cells #[.slice A1_0 l1_0.length c1_0, .int .i64 a1_1] 65 (0, 0)) (bk BK820) NB820_0.out (by simp)); replace BK821 := Aside0.mk (KeepBut.blk hk (g' := gb821) (o := .cells #[.int .i64 a2_0, .int .i64 a2_1, .int .i64 a2_2] 68 (0, 0)) (bk BK821) NB821_0.out (by simp)); replace BK822 := Aside0.mk (KeepBut.blk hk (g' := gb822) (o := .cells #[.int .i64 0, .slice none 0 0] 70 (0, 0)) (bk BK822) NB822_0.out (by simp)); replace HK := Aside0.mk (KeepBut.trans (kp HK) hk (.inl rfl)); replace HB := Aside0.mk (hb); replace HI0 := Aside0.mk (hi); (try clear hb); (try clear hb2); (try clear hk); (try clear hi)))
    go_meet
    case rel => exact ⟨_, (!t825), (t826), (t827), (by first | rfl | (simp; done) | (simp [*]; done)), H', ⟨by first | omega | exact Nat.le_refl _⟩, ⟨by (with_reducible repeat (first | refine blk_drewN ?_ _ | refine blk_drew ?_ | refine blk_alloc ?_ _)); exact BK820.out⟩, ⟨by (with_reducible repeat (first | refine blk_drewN ?_ _ | refine blk_drew ?_ | refine blk_alloc ?_ _)); exact BK821.out⟩, ⟨by (with_reducible repeat (first | refine blk_drewN ?_ _ | refine blk_drew ?_ | refine blk_alloc ?_ _)); exact BK822.out⟩, ⟨IsS197.go HI0⟩, ⟨kp HK⟩, ⟨IsS197.tb HB⟩⟩
   ·replace c11 := Bool.eq_false_iff.mpr c11
    subst c11
    have H1 : (spec_l4DrawRes.j0 k false s0_0 s0_1 s0_2 l1_0 a1_1 a2_0 a2_1 a2_2) = some (r1, r2, r3, r4) := by rw [if_neg (show ¬ (false = true) by decide)] at H; exact H
    clear H
    have H := H1
    clear H1
    have H' := Aside0.mk H
    clear H
    have hnb23 := NB820_821.out
    have hnc23 := NB821_820.out
    have hnb24 := NB820_822.out
    have hnc24 := NB822_820.out
    have hnb25 := NB820_0.out
    have hnc25 := NB0_820.out
    obtain ⟨hcz26_0, hcz26_1, hfz26_0, hfz26_1⟩ := c2 BK820
    go_wp2_with (first | ((with_reducible refine gate_callee (f := 115) rfl ?_); refine gL 11 Try.func115 #[.agg #[.slice A1_0 l1_0.length c1_0, .int .i64 a1_1]] ?_; (with_reducible refine (spec_RowsOk.calls k _ _ l1_0 a1_1 true _ ?side1 ?side2 A8.out).mono ?_); (case side1 => exact Kd.C_keep 0 HR1_0.out (kp HK) hf1_0); (case side2 => exact HC1_0.out); rintro e w27 ⟨rfl, hb⟩; refine ⟨_, rfl, ?_⟩; replace HI0 := Aside0.mk (IsS197.below (IsS197.go HI0) hb); replace BK820 := bb BK820 hb; replace BK821 := bb BK821 hb; replace BK822 := bb BK822 hb; replace HK := Aside0.mk (KeepBut.trans (kp HK) (KeepBut.of_below hb g none) (.inl rfl)); replace HB := Aside0.mk (below_step (IsS197.tb HB) hb); (try clear hb); (try clear hb2); (try clear hk); (try clear hi); have hnb28 := NB821_822.out; have hnc28 := NB822_821.out; have hnb29 := NB821_0.out; have hnc29 := NB0_821.out; obtain ⟨hcz30_0, hcz30_1, hcz30_2, hfz30_0, hfz30_1, hfz30_2⟩ := c3 BK821) | (go_at_call 54; (with_reducible refine (spec_OpOk.calls k a2_0 a2_1 a2_2 false _ A10.out).mono ?_); rintro e w31 ⟨rfl, hb⟩; replace HI0 := Aside0.mk (IsS197.below (IsS197.go HI0) hb); replace BK820 := bb BK820 hb; replace BK821 := bb BK821 hb; replace BK822 := bb BK822 hb; replace HK := Aside0.mk (KeepBut.trans (kp HK) (KeepBut.of_below hb g none) (.inl rfl)); replace HB := Aside0.mk (below_step (IsS197.tb HB) hb); (try clear hb); (try clear hb2); (try clear hk); (try clear hi)))
    go_meet
    case rel => exact ⟨_, (false), (s0_1), (s0_2), (by first | rfl | (simp; done) | (simp [*]; done)), H', ⟨by first | omega | exact Nat.le_refl _⟩, ⟨by (with_reducible repeat (first | refine blk_drewN ?_ _ | refine blk_drew ?_ | refine blk_alloc ?_ _)); exact BK820.out⟩, ⟨by (with_reducible repeat (first | refine blk_drewN ?_ _ | refine blk_drew ?_ | refine blk_alloc ?_ _)); exact BK821.out⟩, ⟨by (with_reducible repeat (first | refine blk_drewN ?_ _ | refine blk_drew ?_ | refine blk_alloc ?_ _)); exact BK822.out⟩, ⟨IsS197.go HI0⟩, ⟨kp HK⟩, ⟨IsS197.tb HB⟩⟩
  ·replace c9 := Bool.eq_false_iff.mpr c9
   subst c9
   have H1 : (spec_l4DrawRes.j0 k false s0_0 s0_1 s0_2 l1_0 a1_1 a2_0 a2_1 a2_2) = some (r1, r2, r3, r4) := by rw [if_neg (show ¬ (false = true) by decide)] at H; exact H
   clear H
   have H := H1
   clear H1
   have H' := Aside0.mk H
   clear H
   have hnb32 := NB820_821.out
   have hnc32 := NB821_820.out
   have hnb33 := NB820_822.out
   have hnc33 := NB822_820.out
   have hnb34 := NB820_0.out
   have hnc34 := NB0_820.out
   obtain ⟨hcz35_0, hcz35_1, hfz35_0, hfz35_1⟩ := c2 BK820
   go_wp2_with (first | ((with_reducible refine gate_callee (f := 115) rfl ?_); refine gL 11 Try.func115 #[.agg #[.slice A1_0 l1_0.length c1_0, .int .i64 a1_1]] ?_; (with_reducible refine (spec_RowsOk.calls k _ _ l1_0 a1_1 false _ ?side1 ?side2 A8.out).mono ?_); (case side1 => exact Kd.C_keep 0 HR1_0.out (kp HK) hf1_0); (case side2 => exact HC1_0.out); rintro e w36 ⟨rfl, hb⟩; refine ⟨_, rfl, ?_⟩; replace HI0 := Aside0.mk (IsS197.below (IsS197.go HI0) hb); replace BK820 := bb BK820 hb; replace BK821 := bb BK821 hb; replace BK822 := bb BK822 hb; replace HK := Aside0.mk (KeepBut.trans (kp HK) (KeepBut.of_below hb g none) (.inl rfl)); replace HB := Aside0.mk (below_step (IsS197.tb HB) hb); (try clear hb); (try clear hb2); (try clear hk); (try clear hi)))
   go_meet
   case rel => exact ⟨_, (false), (s0_1), (s0_2), (by first | rfl | (simp; done) | (simp [*]; done)), H', ⟨by first | omega | exact Nat.le_refl _⟩, ⟨by (with_reducible repeat (first | refine blk_drewN ?_ _ | refine blk_drew ?_ | refine blk_alloc ?_ _)); exact BK820.out⟩, ⟨by (with_reducible repeat (first | refine blk_drewN ?_ _ | refine blk_drew ?_ | refine blk_alloc ?_ _)); exact BK821.out⟩, ⟨by (with_reducible repeat (first | refine blk_drewN ?_ _ | refine blk_drew ?_ | refine blk_alloc ?_ _)); exact BK822.out⟩, ⟨IsS197.go HI0⟩, ⟨kp HK⟩, ⟨IsS197.tb HB⟩⟩
 case rest =>
  clear HC4
  try clear c1
  try clear c2
  try clear p2
  try clear c3
  try clear c9
  try clear c10
  try clear c11
  try clear c13
  try clear c14
  try clear c15
  try clear c18
  try clear c19
  try clear c23
  try clear c24
  try clear c25
  try clear c28
  try clear c29
  try clear c32
  try clear c33
  try clear c34
  try clear hcz16_0
  try clear hcz16_1
  try clear hcz20_0
  try clear hcz20_1
  try clear hcz20_2
  try clear hcz26_0
  try clear hcz26_1
  try clear hcz30_0
  try clear hcz30_1
  try clear hcz30_2
  try clear hcz35_0
  try clear hcz35_1
  try clear hfz16_0
  try clear hfz16_1
  try clear hfz20_0
  try clear hfz20_1
  try clear hfz20_2
  try clear hfz26_0
  try clear hfz26_1
  try clear hfz30_0
  try clear hfz30_1
  try clear hfz30_2
  try clear hfz35_0
  try clear hfz35_1
  obtain ⟨kq, x20_3, x1001_3, x1002_3, rfl, HA, HJ3, BK820, BK821, BK822, HI0, HK, HB⟩ := hcut
  cases kq with
  | zero => exact absurd HA.out (by simp [spec_l4DrawRes.j0])
  | succ kj3 =>
   have H := HA.out
   clear HA
   simp only [spec_l4DrawRes.j0] at H
   have HC37 := Aside0.mk H
   clear H
   go_upto_if 20 with (fail)
   go_cut [] (fun wc => ∃ (kq : Nat) (x823000_36 : Int), Aside0 (spec_l4DrawRes.j1 kq s0_0 x1001_3 x1002_3 = some (r1, r2, r3, r4)) ∧ Aside0 (kq ≤ kj3) ∧ Aside0 (wc.heap[gb820]? = some (.cells #[(.slice A1_0 l1_0.length c1_0), .int .i64 a1_1] 65 (0, 0))) ∧ Aside0 (wc.heap[gb821]? = some (.cells #[.int .i64 a2_0, .int .i64 a2_1, .int .i64 a2_2] 68 (0, 0))) ∧ Aside0 (wc.heap[gb822]? = some (.cells #[.int .i64 x823000_36, (.slice none 0 0)] 70 (0, 0))) ∧ Aside0 (IsS197 w0 wc g s0_0 x1001_3 x1002_3) ∧ Aside0 (KeepBut w wc g none) ∧ Aside0 (Below w0.heap.size w0 wc))
   case first =>
    have H := HC37.out
    clear HC37
    by_cases c38 : x20_3 = true
    ·subst c38
     have H1 : ((spec_l4Done.f kj3 l1_0 a1_1 a2_0 a2_1 a2_2).bind fun bt828 => (if bt828.2 = true then (some (0, bt828.1, x1001_3, x1002_3)) else (spec_l4DrawRes.j1 kj3 s0_0 x1001_3 x1002_3))) = some (r1, r2, r3, r4) := by rw [if_pos rfl] at H; exact H
     clear H
     have H := H1
     clear H1
     replace H := Option.bind_eq_some_iff.mp H
     obtain ⟨⟨t828, t831⟩, A390, H⟩ := H
     replace H : (if t831 = true then (some (0, t828, x1001_3, x1002_3)) else (spec_l4DrawRes.j1 kj3 s0_0 x1001_3 x1002_3)) = some (r1, r2, r3, r4) := H
     have A39 := Aside0.mk A390
     clear A390
     by_cases c40 : t831 = true
     ·subst c40
      have H1 : (some (0, t828, x1001_3, x1002_3)) = some (r1, r2, r3, r4) := by rw [if_pos rfl] at H; exact H
      clear H
      have H := H1
      clear H1
      simp only [Option.some.injEq, Prod.mk.injEq] at H
      obtain ⟨rfl, rfl, rfl, rfl⟩ := H
      have hnb41 := NB820_821.out
      have hnc41 := NB821_820.out
      have hnb42 := NB820_822.out
      have hnc42 := NB822_820.out
      have hnb43 := NB820_0.out
      have hnc43 := NB0_820.out
      obtain ⟨hcz44_0, hcz44_1, hfz44_0, hfz44_1⟩ := c2 BK820
      have hnb45 := NB821_822.out
      have hnc45 := NB822_821.out
      have hnb46 := NB821_0.out
      have hnc46 := NB0_821.out
      obtain ⟨hcz47_0, hcz47_1, hcz47_2, hfz47_0, hfz47_1, hfz47_2⟩ := c3 BK821
      go_wp2_with (first | ((with_reducible refine gate_callee (f := 117) rfl ?_); refine gL 24 Try.func117 #[.agg #[.slice A1_0 l1_0.length c1_0, .int .i64 a1_1], .agg #[.int .i64 a2_0, .int .i64 a2_1, .int .i64 a2_2]] ?_; (with_reducible refine (spec_l4Done.calls kj3 _ _ l1_0 a1_1 a2_0 a2_1 a2_2 t828 true _ ?side1 ?side2 A39.out).mono ?_); (case side1 => exact Kd.C_keep 0 HR1_0.out (kp HK) hf1_0); (case side2 => exact HC1_0.out); rintro e w48 ⟨v829, rfl, ho0, hb⟩; refine ⟨_, rfl, ?_⟩; have HO830 := Aside0.mk (Kd.R_lower ho0 (keep_size (w := w) (g := g) (row := none) (kp HK))); replace BK820 := bb BK820 hb; replace BK821 := bb BK821 hb; replace BK822 := bb BK822 hb; replace HI0 := Aside0.mk (IsS197.below (IsS197.go HI0) hb); replace HK := Aside0.mk (KeepBut.trans (kp HK) (KeepBut.of_below hb g none) (.inl rfl)); replace HB := Aside0.mk (below_step (IsS197.tb HB) hb); (try clear hb); (try clear hb2); (try clear hk); (try clear hi); (try clear ho0); obtain ⟨Ao49, co49, eo49⟩ := Kd.R_slice HO830.out; subst eo49; have hnb50 := NB822_0.out; have hnc50 := NB0_822.out; obtain ⟨hcz51_0, hcz51_1, hfz51_0, hfz51_1⟩ := c2 BK822))
      refine bodyPost_ret (results_cell_row rfl _ _ gb822 70 #[.int .i64 0, .slice Ao49 t828.length co49] (0, 0) _ rfl (by (with_reducible repeat (first | refine blk_drewN ?_ _ | refine blk_drew ?_ | refine blk_alloc ?_ _)); refine blk_put (cs := #[.int .i64 0, .slice none 0 0]) ?_ 1 _ rfl; (with_reducible repeat (first | refine blk_drewN ?_ _ | refine blk_drew ?_ | refine blk_alloc ?_ _)); refine blk_put (cs := #[.int .i64 0, .slice none 0 0]) ?_ 0 _ rfl; (with_reducible repeat (first | refine blk_drewN ?_ _ | refine blk_drew ?_ | refine blk_alloc ?_ _)); exact BK822.out) Try.underlying70 rfl (by kernel_rfl)) rfl ?_
      exact ⟨_, er, by (with_reducible repeat (first | apply Kd.R_alloc | apply Kd.R_drewN | apply Kd.R_drew)); exact Kd.R_mono (Kd.R_far (p := ⟨gb822, 1, none⟩) (Kd.R_far (p := ⟨gb822, 0, none⟩) (Kd.R_types HO830.out BK822.out (by decide)) (fun _ hk => hk.2) (.int .i64 0)) (fun _ hk => hk.2) (.slice Ao49 t828.length co49)) (fun _ hk => trivial), IsS197.go HI0, IsS197.tb HB, kp HK⟩
     ·replace c40 := Bool.eq_false_iff.mpr c40
      subst c40
      have H1 : (spec_l4DrawRes.j1 kj3 s0_0 x1001_3 x1002_3) = some (r1, r2, r3, r4) := by rw [if_neg (show ¬ (false = true) by decide)] at H; exact H
      clear H
      have H := H1
      clear H1
      have H' := Aside0.mk H
      clear H
      have hnb52 := NB820_821.out
      have hnc52 := NB821_820.out
      have hnb53 := NB820_822.out
      have hnc53 := NB822_820.out
      have hnb54 := NB820_0.out
      have hnc54 := NB0_820.out
      obtain ⟨hcz55_0, hcz55_1, hfz55_0, hfz55_1⟩ := c2 BK820
      have hnb56 := NB821_822.out
      have hnc56 := NB822_821.out
      have hnb57 := NB821_0.out
      have hnc57 := NB0_821.out
      obtain ⟨hcz58_0, hcz58_1, hcz58_2, hfz58_0, hfz58_1, hfz58_2⟩ := c3 BK821
      go_wp2_with (first | ((with_reducible refine gate_callee (f := 117) rfl ?_); refine gL 24 Try.func117 #[.agg #[.slice A1_0 l1_0.length c1_0, .int .i64 a1_1], .agg #[.int .i64 a2_0, .int .i64 a2_1, .int .i64 a2_2]] ?_; (with_reducible refine (spec_l4Done.calls kj3 _ _ l1_0 a1_1 a2_0 a2_1 a2_2 t828 false _ ?side1 ?side2 A39.out).mono ?_); (case side1 => exact Kd.C_keep 0 HR1_0.out (kp HK) hf1_0); (case side2 => exact HC1_0.out); rintro e w59 ⟨v829, rfl, ho0, hb⟩; refine ⟨_, rfl, ?_⟩; have HO830 := Aside0.mk (Kd.R_lower ho0 (keep_size (w := w) (g := g) (row := none) (kp HK))); replace BK820 := bb BK820 hb; replace BK821 := bb BK821 hb; replace BK822 := bb BK822 hb; replace HI0 := Aside0.mk (IsS197.below (IsS197.go HI0) hb); replace HK := Aside0.mk (KeepBut.trans (kp HK) (KeepBut.of_below hb g none) (.inl rfl)); replace HB := Aside0.mk (below_step (IsS197.tb HB) hb); (try clear hb); (try clear hb2); (try clear hk); (try clear hi); (try clear ho0)))
      go_meet
      case rel => exact ⟨_, (0), H', ⟨by have := HJ3.out; first | omega | exact Nat.le_refl _⟩, ⟨by (with_reducible repeat (first | refine blk_drewN ?_ _ | refine blk_drew ?_ | refine blk_alloc ?_ _)); exact BK820.out⟩, ⟨by (with_reducible repeat (first | refine blk_drewN ?_ _ | refine blk_drew ?_ | refine blk_alloc ?_ _)); exact BK821.out⟩, ⟨by (with_reducible repeat (first | refine blk_drewN ?_ _ | refine blk_drew ?_ | refine blk_alloc ?_ _)); exact BK822.out⟩, ⟨IsS197.go HI0⟩, ⟨kp HK⟩, ⟨IsS197.tb HB⟩⟩
    ·replace c38 := Bool.eq_false_iff.mpr c38
     subst c38
     have H1 : (spec_l4DrawRes.j1 kj3 s0_0 x1001_3 x1002_3) = some (r1, r2, r3, r4) := by rw [if_neg (show ¬ (false = true) by decide)] at H; exact H
     clear H
     have H := H1
     clear H1
     have H' := Aside0.mk H
     clear H
     go_wp2
     go_meet
     case rel => exact ⟨_, (0), H', ⟨by have := HJ3.out; first | omega | exact Nat.le_refl _⟩, ⟨by (with_reducible repeat (first | refine blk_drewN ?_ _ | refine blk_drew ?_ | refine blk_alloc ?_ _)); exact BK820.out⟩, ⟨by (with_reducible repeat (first | refine blk_drewN ?_ _ | refine blk_drew ?_ | refine blk_alloc ?_ _)); exact BK821.out⟩, ⟨by (with_reducible repeat (first | refine blk_drewN ?_ _ | refine blk_drew ?_ | refine blk_alloc ?_ _)); exact BK822.out⟩, ⟨IsS197.go HI0⟩, ⟨kp HK⟩, ⟨IsS197.tb HB⟩⟩
   case rest =>
    clear HC37
    try clear c1
    try clear c2
    try clear p2
    try clear c3
    try clear c4
    try clear c5
    try clear c9
    try clear c10
    try clear c11
    try clear c13
    try clear c14
    try clear c15
    try clear c18
    try clear c19
    try clear c23
    try clear c24
    try clear c25
    try clear c28
    try clear c29
    try clear c32
    try clear c33
    try clear c34
    try clear c38
    try clear c40
    try clear c41
    try clear c42
    try clear c43
    try clear c45
    try clear c46
    try clear c50
    try clear c52
    try clear c53
    try clear c54
    try clear c56
    try clear c57
    try clear hcz16_0
    try clear hcz16_1
    try clear hcz20_0
    try clear hcz20_1
    try clear hcz20_2
    try clear hcz26_0
    try clear hcz26_1
    try clear hcz30_0
    try clear hcz30_1
    try clear hcz30_2
    try clear hcz35_0
    try clear hcz35_1
    try clear hcz44_0
    try clear hcz44_1
    try clear hcz47_0
    try clear hcz47_1
    try clear hcz47_2
    try clear hcz51_0
    try clear hcz51_1
    try clear hcz55_0
    try clear hcz55_1
    try clear hcz58_0
    try clear hcz58_1
    try clear hcz58_2
    try clear hfz16_0
    try clear hfz16_1
    try clear hfz20_0
    try clear hfz20_1
    try clear hfz20_2
    try clear hfz26_0
    try clear hfz26_1
    try clear hfz30_0
    try clear hfz30_1
    try clear hfz30_2
    try clear hfz35_0
    try clear hfz35_1
    try clear hfz44_0
    try clear hfz44_1
    try clear hfz47_0
    try clear hfz47_1
    try clear hfz47_2
    try clear hfz51_0
    try clear hfz51_1
    try clear hfz55_0
    try clear hfz55_1
    try clear hfz58_0
    try clear hfz58_1
    try clear hfz58_2
    try clear p2
    obtain ⟨kq, x823000_36, HA, HJ36, BK820, BK821, BK822, HI0, HK, HB⟩ := hcut
    cases kq with
    | zero => exact absurd HA.out (by simp [spec_l4DrawRes.j1])
    | succ kj36 =>
     have H := HA.out
     clear HA
     simp only [spec_l4DrawRes.j1] at H
     replace H := Option.bind_eq_some_iff.mp H
     obtain ⟨⟨t832, t833, t834⟩, A600, H⟩ := H
     replace H : ((spec_l1Once.f s0_0 t833 t834 4).bind fun bt836 => (if bt836.1 = true then ((spec_l1Below.f s0_0 bt836.2.1 bt836.2.2 4).bind fun bt839 => (some (wrap64 (t832 - 1), (([bt839.1] : List Int)), bt839.2.1, bt839.2.2))) else (some (wrap64 (t832 - 1), ([] : List Int), bt836.2.1, bt836.2.2)))) = some (r1, r2, r3, r4) := H
     have A60 := Aside0.mk A600
     clear A600
     replace H := Option.bind_eq_some_iff.mp H
     obtain ⟨⟨t836, t837, t838⟩, A610, H⟩ := H
     replace H : (if t836 = true then ((spec_l1Below.f s0_0 t837 t838 4).bind fun bt839 => (some (wrap64 (t832 - 1), (([bt839.1] : List Int)), bt839.2.1, bt839.2.2))) else (some (wrap64 (t832 - 1), ([] : List Int), t837, t838))) = some (r1, r2, r3, r4) := H
     have A61 := Aside0.mk A610
     clear A610
     by_cases c62 : t836 = true
     ·subst c62
      have H1 : ((spec_l1Below.f s0_0 t837 t838 4).bind fun bt839 => (some (wrap64 (t832 - 1), (([bt839.1] : List Int)), bt839.2.1, bt839.2.2))) = some (r1, r2, r3, r4) := by rw [if_pos rfl] at H; exact H
      clear H
      have H := H1
      clear H1
      replace H := Option.bind_eq_some_iff.mp H
      obtain ⟨⟨t839, t840, t841⟩, A630, H⟩ := H
      replace H : (some (wrap64 (t832 - 1), (([t839] : List Int)), t840, t841)) = some (r1, r2, r3, r4) := H
      have A63 := Aside0.mk A630
      clear A630
      obtain ⟨y842, hy842⟩ : ∃ y_ : List Int, y_ = (([t839] : List Int)) := ⟨_, rfl⟩
      replace H : (some (wrap64 (t832 - 1), y842, t840, t841)) = some (r1, r2, r3, r4) := by first | (rw [hy842]; with_reducible exact H) | (have H2_ := (Option.bind_some _ _).symm.trans H; rw [hy842]; with_reducible exact H2_) | (have H2_ := (Option.bind_some _ _).symm.trans H; with_reducible exact H2_) | with_reducible exact H | (rw [hy842]; exact H) | exact H
      have Ny842 := Aside0.mk hy842
      clear hy842
      simp only [Option.some.injEq, Prod.mk.injEq] at H
      obtain ⟨rfl, rfl, rfl, rfl⟩ := H
      go_wp2_with (first | ((with_reducible refine gate_callee (f := 159) rfl ?_); refine gL 31 Try.func159 #[.pointer (some ⟨g, 0, none⟩), .int .i64 7] ?_; (with_reducible refine (spec_l1Below.calls g s0_0 x1001_3 x1002_3 7 t832 t833 t834 w0 _ ?side1 ?side2 A60.out).mono ?_); (case side1 => repeat (first | (with_reducible first | exact HI0.out | apply IsS197.alloc | apply IsS197.drewN | apply IsS197.drew | apply IsS197.set_1 | apply IsS197.set_2 | refine IsS197.far ?_ NB0_820.out _ | refine IsS197.far ?_ NB0_821.out _ | refine IsS197.far ?_ NB0_822.out _) | exact HI0.out)); (case side2 => repeat (first | (with_reducible first | exact HB.out | apply below_alloc | apply pw_below_drewN | apply below_drew1 | refine below_set ?_ (IsS197.ge HI0.out) | refine below_set ?_ GE820.out | refine below_set ?_ GE821.out | refine below_set ?_ GE822.out) | exact HB.out)); rintro e w64 ⟨rfl, hi, hb, hk⟩; refine ⟨_, rfl, ?_⟩; replace BK820 := Aside0.mk (KeepBut.blk hk (g' := gb820) (o := .cells #[.slice A1_0 l1_0.length c1_0, .int .i64 a1_1] 65 (0, 0)) (bk BK820) NB820_0.out (by simp)); replace BK821 := Aside0.mk (KeepBut.blk hk (g' := gb821) (o := .cells #[.int .i64 a2_0, .int .i64 a2_1, .int .i64 a2_2] 68 (0, 0)) (bk BK821) NB821_0.out (by simp)); replace BK822 := Aside0.mk (KeepBut.blk hk (g' := gb822) (o := .cells #[.int .i64 x823000_36, .slice none 0 0] 70 (0, 0)) (bk BK822) NB822_0.out (by simp)); replace HK := Aside0.mk (KeepBut.trans (kp HK) hk (.inl rfl)); replace HB := Aside0.mk (hb); replace HI0 := Aside0.mk (hi); (try clear hb); (try clear hb2); (try clear hk); (try clear hi)) | ((with_reducible refine gate_dst (N := 9) rfl ?_); refine bx (N := 9) (cs := #[.int .i64 0, .slice none 0 0]) (t := 70) ?_; intro gb835 hg w65 hbox hb; replace HB := Aside0.mk (below_step (IsS197.tb HB) hb); have BK835 := Aside0.mk (hbox); have GW835 := Aside0.mk ((by rw [hg]; exact (keep_size (w := w) (g := g) (row := none) (kp HK)) : w.heap.size ≤ gb835)); have GE835 := Aside0.mk ((Nat.le_trans HW0.out (by rw [hg]; exact (keep_size (w := w) (g := g) (row := none) (kp HK)) : w.heap.size ≤ gb835) : w0.heap.size ≤ gb835)); replace HK := Aside0.mk (KeepBut.trans (kp HK) (KeepBut.of_below hb g none) (.inl rfl)); have NB820_835 := Aside0.mk (nl_ hg BK820); have NB835_820 := Aside0.mk (ng_ hg BK820); replace BK820 := bb BK820 hb; have NB821_835 := Aside0.mk (nl_ hg BK821); have NB835_821 := Aside0.mk (ng_ hg BK821); replace BK821 := bb BK821 hb; have NB822_835 := Aside0.mk (nl_ hg BK822); have NB835_822 := Aside0.mk (ng_ hg BK822); replace BK822 := bb BK822 hb; have NB0_835 := Aside0.mk ((by rw [hg]; exact Nat.ne_of_lt (IsS197.lt (show IsS197 w0 _ g s0_0 t833 t834 from IsS197.go HI0)) : g ≠ gb835)); have NB835_0 := Aside0.mk ((by rw [hg]; exact Nat.ne_of_gt (IsS197.lt (show IsS197 w0 _ g s0_0 t833 t834 from IsS197.go HI0)) : gb835 ≠ g)); replace HI0 := Aside0.mk (IsS197.below (IsS197.go HI0) hb); clear hb hbox hg; have hnb66 := NB835_820.out; have hnc66 := NB820_835.out; have hnb67 := NB835_821.out; have hnc67 := NB821_835.out; have hnb68 := NB835_822.out; have hnc68 := NB822_835.out; have hnb69 := NB835_0.out; have hnc69 := NB0_835.out; obtain ⟨hcz70_0, hcz70_1, hfz70_0, hfz70_1⟩ := c2 BK835) | ((with_reducible refine gate_callee (f := 114) rfl ?_); refine gL 35 Try.func114 #[.pointer (some ⟨g, 0, none⟩), .int .i64 4] ?_; (with_reducible refine (spec_l1Once.calls g s0_0 t833 t834 4 true t837 t838 w0 _ ?side1 ?side2 A61.out).mono ?_); (case side1 => repeat (first | (with_reducible first | exact HI0.out | apply IsS197.alloc | apply IsS197.drewN | apply IsS197.drew | apply IsS197.set_1 | apply IsS197.set_2 | refine IsS197.far ?_ NB0_820.out _ | refine IsS197.far ?_ NB0_821.out _ | refine IsS197.far ?_ NB0_822.out _ | refine IsS197.far ?_ NB0_835.out _) | exact HI0.out)); (case side2 => repeat (first | (with_reducible first | exact HB.out | apply below_alloc | apply pw_below_drewN | apply below_drew1 | refine below_set ?_ (IsS197.ge HI0.out) | refine below_set ?_ GE820.out | refine below_set ?_ GE821.out | refine below_set ?_ GE822.out | refine below_set ?_ GE835.out) | exact HB.out)); rintro e w71 ⟨rfl, hi, hb, hk⟩; refine ⟨_, rfl, ?_⟩; replace BK820 := Aside0.mk (KeepBut.blk hk (g' := gb820) (o := .cells #[.slice A1_0 l1_0.length c1_0, .int .i64 a1_1] 65 (0, 0)) (bf BK820) NB820_0.out (by simp)); replace BK821 := Aside0.mk (KeepBut.blk hk (g' := gb821) (o := .cells #[.int .i64 a2_0, .int .i64 a2_1, .int .i64 a2_2] 68 (0, 0)) (bf BK821) NB821_0.out (by simp)); replace BK822 := Aside0.mk (KeepBut.blk hk (g' := gb822) (o := .cells #[.int .i64 x823000_36, .slice none 0 0] 70 (0, 0)) (bf BK822) NB822_0.out (by simp)); replace BK835 := Aside0.mk (KeepBut.blk hk (g' := gb835) (o := .cells #[.int .i64 (wrap64 (t832 - 1)), .slice none 0 0] 70 (0, 0)) (by (with_reducible repeat (first | refine blk_drewN ?_ _ | refine blk_drew ?_ | refine blk_alloc ?_ _)); refine blk_put (cs := #[.int .i64 (wrap64 (t832 - 1)), .slice none 0 0]) ?_ 1 _ rfl; (with_reducible repeat (first | refine blk_drewN ?_ _ | refine blk_drew ?_ | refine blk_alloc ?_ _)); refine blk_put (cs := #[.int .i64 0, .slice none 0 0]) ?_ 0 _ rfl; (with_reducible repeat (first | refine blk_drewN ?_ _ | refine blk_drew ?_ | refine blk_alloc ?_ _)); exact BK835.out) NB835_0.out (by simp)); replace HK := Aside0.mk (KeepBut.trans (kp HK) hk (.inl rfl)); replace HB := Aside0.mk (hb); replace HI0 := Aside0.mk (hi); (try clear hb); (try clear hb2); (try clear hk); (try clear hi)) | ((with_reducible refine gate_callee (f := 159) rfl ?_); refine gL 37 Try.func159 #[.pointer (some ⟨g, 0, none⟩), .int .i64 4] ?_; (with_reducible refine (spec_l1Below.calls g s0_0 t837 t838 4 t839 t840 t841 w0 _ ?side1 ?side2 A63.out).mono ?_); (case side1 => repeat (first | (with_reducible first | exact HI0.out | apply IsS197.alloc | apply IsS197.drewN | apply IsS197.drew | apply IsS197.set_1 | apply IsS197.set_2 | refine IsS197.far ?_ NB0_820.out _ | refine IsS197.far ?_ NB0_821.out _ | refine IsS197.far ?_ NB0_822.out _ | refine IsS197.far ?_ NB0_835.out _) | exact HI0.out)); (case side2 => repeat (first | (with_reducible first | exact HB.out | apply below_alloc | apply pw_below_drewN | apply below_drew1 | refine below_set ?_ (IsS197.ge HI0.out) | refine below_set ?_ GE820.out | refine below_set ?_ GE821.out | refine below_set ?_ GE822.out | refine below_set ?_ GE835.out) | exact HB.out)); rintro e w72 ⟨rfl, hi, hb, hk⟩; refine ⟨_, rfl, ?_⟩; replace BK820 := Aside0.mk (KeepBut.blk hk (g' := gb820) (o := .cells #[.slice A1_0 l1_0.length c1_0, .int .i64 a1_1] 65 (0, 0)) (bk BK820) NB820_0.out (by simp)); replace BK821 := Aside0.mk (KeepBut.blk hk (g' := gb821) (o := .cells #[.int .i64 a2_0, .int .i64 a2_1, .int .i64 a2_2] 68 (0, 0)) (bk BK821) NB821_0.out (by simp)); replace BK822 := Aside0.mk (KeepBut.blk hk (g' := gb822) (o := .cells #[.int .i64 x823000_36, .slice none 0 0] 70 (0, 0)) (bk BK822) NB822_0.out (by simp)); replace BK835 := Aside0.mk (KeepBut.blk hk (g' := gb835) (o := .cells #[.int .i64 (wrap64 (t832 - 1)), .slice none 0 0] 70 (0, 0)) (bk BK835) NB835_0.out (by simp)); replace HK := Aside0.mk (KeepBut.trans (kp HK) hk (.inl rfl)); replace HB := Aside0.mk (hb); replace HI0 := Aside0.mk (hi); (try clear hb); (try clear hb2); (try clear hk); (try clear hi)) | ((with_reducible refine gate_dst (N := 38) rfl ?_); refine Kd.R_lit (Kd.int .i64) _ 3 ?hg (N := 38) ?hd (xs := ([t839] : List Int)) (inner := [.int .i64 t839]) (ok := fun _ => True) (okp := fun _ => True) ?hr ?hp (fun _ hk => hk) trivial (Below.refl _ _) (Nat.le_refl _) (by simp) ?_; (case hd => rfl); (case hg => rfl); (case hr => first | (go_simp; done) | (go_simp; rfl)); (case hp => exact (Reps.one (show Kd.M (Kd.int .i64) _ _ _ t839 [.int .i64 t839] from rfl) (Reps.none _ _))); intro v843 w73 ho74 hb hg_ hnew_; clear hg_ hnew_; (first | rw [← Ny842.out] at ho74 | (simp only [Int.reduceToNat] at ho74; rw [← Ny842.out] at ho74)); have HO844 := Aside0.mk (Kd.R_lower ho74 (keep_size (w := w) (g := g) (row := none) (kp HK))); replace BK820 := bb BK820 hb; replace BK821 := bb BK821 hb; replace BK822 := bb BK822 hb; replace HI0 := Aside0.mk (IsS197.below (IsS197.go HI0) hb); replace BK835 := bb BK835 hb; replace HK := Aside0.mk (KeepBut.trans (kp HK) (KeepBut.of_below hb g none) (.inl rfl)); replace HB := Aside0.mk (below_step (IsS197.tb HB) hb); clear hb ho74; obtain ⟨Ao75, co75, eo75⟩ := Kd.R_slice HO844.out; subst eo75; obtain ⟨hcz76_0, hcz76_1, hfz76_0, hfz76_1⟩ := c2 BK835; have hnb77 := NB822_820.out; have hnc77 := NB820_822.out; have hnb78 := NB822_821.out; have hnc78 := NB821_822.out; have hnb79 := NB822_0.out; have hnc79 := NB0_822.out; obtain ⟨hcz80_0, hcz80_1, hfz80_0, hfz80_1⟩ := c2 BK822))
      refine bodyPost_ret (results_cell_row rfl _ _ gb822 70 #[.int .i64 (wrap64 (t832 - 1)), .slice Ao75 y842.length co75] (0, 0) _ rfl (by (with_reducible repeat (first | refine blk_drewN ?_ _ | refine blk_drew ?_ | refine blk_alloc ?_ _)); refine blk_put (cs := #[.int .i64 (wrap64 (t832 - 1)), .slice none 0 0]) ?_ 1 _ rfl; (with_reducible repeat (first | refine blk_drewN ?_ _ | refine blk_drew ?_ | refine blk_alloc ?_ _)); refine blk_put (cs := #[.int .i64 x823000_36, .slice none 0 0]) ?_ 0 _ rfl; (with_reducible repeat (first | refine blk_drewN ?_ _ | refine blk_drew ?_ | refine blk_alloc ?_ _)); refine blk_far ?_ NB822_835.out _; (with_reducible repeat (first | refine blk_drewN ?_ _ | refine blk_drew ?_ | refine blk_alloc ?_ _)); exact BK822.out) Try.underlying70 rfl (by kernel_rfl)) rfl ?_
      exact ⟨_, er, by (with_reducible repeat (first | apply Kd.R_alloc | apply Kd.R_drewN | apply Kd.R_drew)); exact Kd.R_mono (Kd.R_far (p := ⟨gb822, 1, none⟩) (Kd.R_far (p := ⟨gb822, 0, none⟩) (Kd.R_far (p := ⟨gb835, 1, none⟩) (Kd.R_types (Kd.R_types HO844.out BK835.out (by decide)) BK822.out (by decide)) (fun _ hk => hk.1.2) (.slice Ao75 y842.length co75)) (fun _ hk => hk.2) (.int .i64 (wrap64 (t832 - 1)))) (fun _ hk => hk.2) (.slice Ao75 y842.length co75)) (fun _ hk => trivial), IsS197.go HI0, IsS197.tb HB, kp HK⟩
     ·replace c62 := Bool.eq_false_iff.mpr c62
      subst c62
      have H1 : (some (wrap64 (t832 - 1), ([] : List Int), t837, t838)) = some (r1, r2, r3, r4) := by rw [if_neg (show ¬ (false = true) by decide)] at H; exact H
      clear H
      have H := H1
      clear H1
      simp only [Option.some.injEq, Prod.mk.injEq] at H
      obtain ⟨rfl, rfl, rfl, rfl⟩ := H
      go_wp2_with (first | ((with_reducible refine gate_callee (f := 159) rfl ?_); refine gL 31 Try.func159 #[.pointer (some ⟨g, 0, none⟩), .int .i64 7] ?_; (with_reducible refine (spec_l1Below.calls g s0_0 x1001_3 x1002_3 7 t832 t833 t834 w0 _ ?side1 ?side2 A60.out).mono ?_); (case side1 => repeat (first | (with_reducible first | exact HI0.out | apply IsS197.alloc | apply IsS197.drewN | apply IsS197.drew | apply IsS197.set_1 | apply IsS197.set_2 | refine IsS197.far ?_ NB0_820.out _ | refine IsS197.far ?_ NB0_821.out _ | refine IsS197.far ?_ NB0_822.out _) | exact HI0.out)); (case side2 => repeat (first | (with_reducible first | exact HB.out | apply below_alloc | apply pw_below_drewN | apply below_drew1 | refine below_set ?_ (IsS197.ge HI0.out) | refine below_set ?_ GE820.out | refine below_set ?_ GE821.out | refine below_set ?_ GE822.out) | exact HB.out)); rintro e w81 ⟨rfl, hi, hb, hk⟩; refine ⟨_, rfl, ?_⟩; replace BK820 := Aside0.mk (KeepBut.blk hk (g' := gb820) (o := .cells #[.slice A1_0 l1_0.length c1_0, .int .i64 a1_1] 65 (0, 0)) (bk BK820) NB820_0.out (by simp)); replace BK821 := Aside0.mk (KeepBut.blk hk (g' := gb821) (o := .cells #[.int .i64 a2_0, .int .i64 a2_1, .int .i64 a2_2] 68 (0, 0)) (bk BK821) NB821_0.out (by simp)); replace BK822 := Aside0.mk (KeepBut.blk hk (g' := gb822) (o := .cells #[.int .i64 x823000_36, .slice none 0 0] 70 (0, 0)) (bk BK822) NB822_0.out (by simp)); replace HK := Aside0.mk (KeepBut.trans (kp HK) hk (.inl rfl)); replace HB := Aside0.mk (hb); replace HI0 := Aside0.mk (hi); (try clear hb); (try clear hb2); (try clear hk); (try clear hi)) | ((with_reducible refine gate_dst (N := 9) rfl ?_); refine bx (N := 9) (cs := #[.int .i64 0, .slice none 0 0]) (t := 70) ?_; intro gb835 hg w82 hbox hb; replace HB := Aside0.mk (below_step (IsS197.tb HB) hb); have BK835 := Aside0.mk (hbox); have GW835 := Aside0.mk ((by rw [hg]; exact (keep_size (w := w) (g := g) (row := none) (kp HK)) : w.heap.size ≤ gb835)); have GE835 := Aside0.mk ((Nat.le_trans HW0.out (by rw [hg]; exact (keep_size (w := w) (g := g) (row := none) (kp HK)) : w.heap.size ≤ gb835) : w0.heap.size ≤ gb835)); replace HK := Aside0.mk (KeepBut.trans (kp HK) (KeepBut.of_below hb g none) (.inl rfl)); have NB820_835 := Aside0.mk (nl_ hg BK820); have NB835_820 := Aside0.mk (ng_ hg BK820); replace BK820 := bb BK820 hb; have NB821_835 := Aside0.mk (nl_ hg BK821); have NB835_821 := Aside0.mk (ng_ hg BK821); replace BK821 := bb BK821 hb; have NB822_835 := Aside0.mk (nl_ hg BK822); have NB835_822 := Aside0.mk (ng_ hg BK822); replace BK822 := bb BK822 hb; have NB0_835 := Aside0.mk ((by rw [hg]; exact Nat.ne_of_lt (IsS197.lt (show IsS197 w0 _ g s0_0 t833 t834 from IsS197.go HI0)) : g ≠ gb835)); have NB835_0 := Aside0.mk ((by rw [hg]; exact Nat.ne_of_gt (IsS197.lt (show IsS197 w0 _ g s0_0 t833 t834 from IsS197.go HI0)) : gb835 ≠ g)); replace HI0 := Aside0.mk (IsS197.below (IsS197.go HI0) hb); clear hb hbox hg; have hnb83 := NB835_820.out; have hnc83 := NB820_835.out; have hnb84 := NB835_821.out; have hnc84 := NB821_835.out; have hnb85 := NB835_822.out; have hnc85 := NB822_835.out; have hnb86 := NB835_0.out; have hnc86 := NB0_835.out; obtain ⟨hcz87_0, hcz87_1, hfz87_0, hfz87_1⟩ := c2 BK835) | ((with_reducible refine gate_callee (f := 114) rfl ?_); refine gL 35 Try.func114 #[.pointer (some ⟨g, 0, none⟩), .int .i64 4] ?_; (with_reducible refine (spec_l1Once.calls g s0_0 t833 t834 4 false t837 t838 w0 _ ?side1 ?side2 A61.out).mono ?_); (case side1 => repeat (first | (with_reducible first | exact HI0.out | apply IsS197.alloc | apply IsS197.drewN | apply IsS197.drew | apply IsS197.set_1 | apply IsS197.set_2 | refine IsS197.far ?_ NB0_820.out _ | refine IsS197.far ?_ NB0_821.out _ | refine IsS197.far ?_ NB0_822.out _ | refine IsS197.far ?_ NB0_835.out _) | exact HI0.out)); (case side2 => repeat (first | (with_reducible first | exact HB.out | apply below_alloc | apply pw_below_drewN | apply below_drew1 | refine below_set ?_ (IsS197.ge HI0.out) | refine below_set ?_ GE820.out | refine below_set ?_ GE821.out | refine below_set ?_ GE822.out | refine below_set ?_ GE835.out) | exact HB.out)); rintro e w88 ⟨rfl, hi, hb, hk⟩; refine ⟨_, rfl, ?_⟩; replace BK820 := Aside0.mk (KeepBut.blk hk (g' := gb820) (o := .cells #[.slice A1_0 l1_0.length c1_0, .int .i64 a1_1] 65 (0, 0)) (bf BK820) NB820_0.out (by simp)); replace BK821 := Aside0.mk (KeepBut.blk hk (g' := gb821) (o := .cells #[.int .i64 a2_0, .int .i64 a2_1, .int .i64 a2_2] 68 (0, 0)) (bf BK821) NB821_0.out (by simp)); replace BK822 := Aside0.mk (KeepBut.blk hk (g' := gb822) (o := .cells #[.int .i64 x823000_36, .slice none 0 0] 70 (0, 0)) (bf BK822) NB822_0.out (by simp)); replace BK835 := Aside0.mk (KeepBut.blk hk (g' := gb835) (o := .cells #[.int .i64 (wrap64 (t832 - 1)), .slice none 0 0] 70 (0, 0)) (by (with_reducible repeat (first | refine blk_drewN ?_ _ | refine blk_drew ?_ | refine blk_alloc ?_ _)); refine blk_put (cs := #[.int .i64 (wrap64 (t832 - 1)), .slice none 0 0]) ?_ 1 _ rfl; (with_reducible repeat (first | refine blk_drewN ?_ _ | refine blk_drew ?_ | refine blk_alloc ?_ _)); refine blk_put (cs := #[.int .i64 0, .slice none 0 0]) ?_ 0 _ rfl; (with_reducible repeat (first | refine blk_drewN ?_ _ | refine blk_drew ?_ | refine blk_alloc ?_ _)); exact BK835.out) NB835_0.out (by simp)); replace HK := Aside0.mk (KeepBut.trans (kp HK) hk (.inl rfl)); replace HB := Aside0.mk (hb); replace HI0 := Aside0.mk (hi); (try clear hb); (try clear hb2); (try clear hk); (try clear hi); obtain ⟨hcz89_0, hcz89_1, hfz89_0, hfz89_1⟩ := c2 BK835; have hnb90 := NB822_820.out; have hnc90 := NB820_822.out; have hnb91 := NB822_821.out; have hnc91 := NB821_822.out; have hnb92 := NB822_0.out; have hnc92 := NB0_822.out; obtain ⟨hcz93_0, hcz93_1, hfz93_0, hfz93_1⟩ := c2 BK822))
      refine bodyPost_ret (results_cell_row rfl _ _ gb822 70 #[.int .i64 (wrap64 (t832 - 1)), .slice none 0 0] (0, 0) _ rfl (by (with_reducible repeat (first | refine blk_drewN ?_ _ | refine blk_drew ?_ | refine blk_alloc ?_ _)); refine blk_put (cs := #[.int .i64 (wrap64 (t832 - 1)), .slice none 0 0]) ?_ 1 _ rfl; (with_reducible repeat (first | refine blk_drewN ?_ _ | refine blk_drew ?_ | refine blk_alloc ?_ _)); refine blk_put (cs := #[.int .i64 x823000_36, .slice none 0 0]) ?_ 0 _ rfl; (with_reducible repeat (first | refine blk_drewN ?_ _ | refine blk_drew ?_ | refine blk_alloc ?_ _)); exact BK822.out) Try.underlying70 rfl (by kernel_rfl)) rfl ?_
      exact ⟨_, er, by first | exact Kd.R_nil _ _ _ _ _ | exact Kd.N_nil _ _ _ _ _ | exact Kd.V_nil _ _ _ _ _ | exact Kd.Q_nil _ _ _ _ _ | exact Kd.S_nil _ _ _ _ _, IsS197.go HI0, IsS197.tb HB, kp HK⟩
def spec_DrawAllowed.f (k : Nat) (l0 : List Int) : Option (List Int × Int × Int × Int × Int × Int × List Int) := (spec_l1New.f k l0).bind fun bt848 => ((spec_l3Draw.f k bt848.1 bt848.2.1 bt848.2.2).bind fun bt852 => ((spec_l4Draw.f k bt848.1 bt852.2.2.1 bt852.2.2.2).bind fun bt859 => ((spec_l4DrawRes.f k bt848.1 bt859.2.2.2.1 bt859.2.2.2.2 bt852.1 bt852.2.1 bt859.1 bt859.2.1 bt859.2.2.1).bind fun bt865 => (some (bt852.1, bt852.2.1, bt859.1, bt859.2.1, bt859.2.2.1, bt865.1, bt865.2.1)))))
theorem spec_DrawAllowed.mono : ∀ a0 k, LeO (spec_DrawAllowed.f k a0) (spec_DrawAllowed.f (k + 1) a0) := by
 intro a0 k
 unfold spec_DrawAllowed.f
 repeat' first
   | (with_reducible exact spec_l1New.mono _ _)
   | (with_reducible exact spec_l3Draw.mono _ _ _ _)
   | (with_reducible exact spec_l4Draw.mono _ _ _ _)
   | (with_reducible exact spec_l4DrawRes.mono _ _ _ _ _ _ _ _ _)
   | (with_reducible exact LeO.refl _)
   | (with_reducible exact LeO.none _)
   | (with_reducible refine LeO.ite ?_ ?_)
   | (with_reducible refine LeO.bind ?_ (fun _ => ?_))
   | exact spec_l1New.mono _ _
   | exact spec_l3Draw.mono _ _ _ _
   | exact spec_l4Draw.mono _ _ _ _
   | exact spec_l4DrawRes.mono _ _ _ _ _ _ _ _ _
   | exact LeO.none _
   | refine LeO.ite ?_ ?_
   | refine LeO.bind ?_ (fun _ => ?_)
def spec_DrawAllowed.T4 : Bool × List (List Nat × List Nat) := (true, [([], []), ([], []), ([], []), ([], []), ([], []), ([2, 3, 4], [2, 3, 4]), ([0, 5, 0], [0]), ([1, 6, 0, 1, 6], [1]), ([5, 7, 0, 1, 2, 3, 4, 5, 6, 7], [5])])
def spec_DrawAllowed.B4 : List Nat := [0, 0, 0, 0, 0, 28, 61, 127, 255]
theorem spec_DrawAllowed.tab4 : rtab .any (opsOf Try.f45 4) = spec_DrawAllowed.T4 := by kernel_rfl
theorem spec_DrawAllowed.bits4 : waitsOk spec_DrawAllowed.T4.2 spec_DrawAllowed.B4 = true := by kernel_rfl
set_option maxHeartbeats 8000000 in
set_option maxRecDepth 100000 in
theorem spec_DrawAllowed.calls (k : Nat) (A0 : Option Addr) (c0 : Nat) (l0 : List Int) (r1 : List Int) (r2 : Int) (r3 : Int) (r4 : Int) (r5 : Int) (r6 : Int) (r7 : List Int) (w : World) (hr0 : Kd.C (Kd.int .u8) w A0 l0.length l0) (hc0 : l0.length ≤ c0) (h : spec_DrawAllowed.f k l0 = some (r1, r2, r3, r4, r5, r6, r7)) :
  Calls Try.prog 45 #[.slice A0 l0.length c0] w fun e w' => ∃ v0_ v6_ : Value, e = .returned (.tuple #[.agg #[v0_, .int .i64 r2], .agg #[.int .i64 r3, .int .i64 r4, .int .i64 r5], .agg #[.int .i64 r6, v6_]]) ∧ Kd.R (Kd.int .i64) 3 w' w.heap.size (fun k_ => some k_ ≠ (v6_ : Value).ownBlock) v0_ r1 ∧ Kd.R (Kd.int .i64) 3 w' w.heap.size (fun k_ => some k_ ≠ (v0_ : Value).ownBlock) v6_ r7 ∧ Below w.heap.size w w' := by
 have hu65 := Try.underlying65
 have hu68 := Try.underlying68
 have hu70 := Try.underlying70
 have HR0 := Aside0.mk hr0
 have HC0 := Aside0.mk hc0
 clear hr0 hc0
 have HB := Aside0.mk (Below.refl w.heap.size w)
 have H : ((spec_l1New.f k l0).bind fun bt848 => ((spec_l3Draw.f k bt848.1 bt848.2.1 bt848.2.2).bind fun bt852 => ((spec_l4Draw.f k bt848.1 bt852.2.2.1 bt852.2.2.2).bind fun bt859 => ((spec_l4DrawRes.f k bt848.1 bt859.2.2.2.1 bt859.2.2.2.2 bt852.1 bt852.2.1 bt859.1 bt859.2.1 bt859.2.2.1).bind fun bt865 => (some (bt852.1, bt852.2.1, bt859.1, bt859.2.1, bt859.2.2.1, bt865.1, bt865.2.1)))))) = some (r1, r2, r3, r4, r5, r6, r7) := h
 clear h
 replace H := Option.bind_eq_some_iff.mp H
 obtain ⟨⟨t848, t849, t850⟩, A20, H⟩ := H
 replace H : ((spec_l3Draw.f k t848 t849 t850).bind fun bt852 => ((spec_l4Draw.f k t848 bt852.2.2.1 bt852.2.2.2).bind fun bt859 => ((spec_l4DrawRes.f k t848 bt859.2.2.2.1 bt859.2.2.2.2 bt852.1 bt852.2.1 bt859.1 bt859.2.1 bt859.2.2.1).bind fun bt865 => (some (bt852.1, bt852.2.1, bt859.1, bt859.2.1, bt859.2.2.1, bt865.1, bt865.2.1))))) = some (r1, r2, r3, r4, r5, r6, r7) := H
 have A2 := Aside0.mk A20
 clear A20
 replace H := Option.bind_eq_some_iff.mp H
 obtain ⟨⟨t852, t855, t856, t857⟩, A30, H⟩ := H
 replace H : ((spec_l4Draw.f k t848 t856 t857).bind fun bt859 => ((spec_l4DrawRes.f k t848 bt859.2.2.2.1 bt859.2.2.2.2 t852 t855 bt859.1 bt859.2.1 bt859.2.2.1).bind fun bt865 => (some (t852, t855, bt859.1, bt859.2.1, bt859.2.2.1, bt865.1, bt865.2.1)))) = some (r1, r2, r3, r4, r5, r6, r7) := H
 have A3 := Aside0.mk A30
 clear A30
 replace H := Option.bind_eq_some_iff.mp H
 obtain ⟨⟨t859, t860, t861, t862, t863⟩, A40, H⟩ := H
 replace H : ((spec_l4DrawRes.f k t848 t862 t863 t852 t855 t859 t860 t861).bind fun bt865 => (some (t852, t855, t859, t860, t861, bt865.1, bt865.2.1))) = some (r1, r2, r3, r4, r5, r6, r7) := H
 have A4 := Aside0.mk A40
 clear A40
 replace H := Option.bind_eq_some_iff.mp H
 obtain ⟨⟨t865, t866, t869, t870⟩, A50, H⟩ := H
 replace H : (some (t852, t855, t859, t860, t861, t865, t866)) = some (r1, r2, r3, r4, r5, r6, r7) := H
 have A5 := Aside0.mk A50
 clear A50
 simp only [Option.some.injEq, Prod.mk.injEq] at H
 obtain ⟨rfl, rfl, rfl, rfl, rfl, rfl, rfl⟩ := H
 go_enter Try.func45, Try.ntmps45
 try go_wp2_with (first | ((with_reducible refine gate_dst (N := 2) rfl ?_); refine bx (N := 2) (cs := #[.slice none 0 0, .int .i64 0]) (t := 65) ?_; intro gb845 hg w6 hbox hb; have BK845 := Aside0.mk (hbox); have GW845 := Aside0.mk (ge_ hg HB); have GE845 := Aside0.mk (ge_ hg HB); replace HB := bs HB hb; clear hb hbox hg) | ((with_reducible refine gate_dst (N := 3) rfl ?_); refine bx (N := 3) (cs := #[.int .i64 0, .int .i64 0, .int .i64 0]) (t := 68) ?_; intro gb846 hg w7 hbox hb; have BK846 := Aside0.mk (hbox); have GW846 := Aside0.mk (ge_ hg HB); have GE846 := Aside0.mk (ge_ hg HB); replace HB := bs HB hb; have NB845_846 := Aside0.mk (nl_ hg BK845); have NB846_845 := Aside0.mk (ng_ hg BK845); replace BK845 := bb BK845 hb; clear hb hbox hg) | ((with_reducible refine gate_dst (N := 4) rfl ?_); refine bx (N := 4) (cs := #[.int .i64 0, .slice none 0 0]) (t := 70) ?_; intro gb847 hg w8 hbox hb; have BK847 := Aside0.mk (hbox); have GW847 := Aside0.mk (ge_ hg HB); have GE847 := Aside0.mk (ge_ hg HB); replace HB := bs HB hb; have NB845_847 := Aside0.mk (nl_ hg BK845); have NB847_845 := Aside0.mk (ng_ hg BK845); replace BK845 := bb BK845 hb; have NB846_847 := Aside0.mk (nl_ hg BK846); have NB847_846 := Aside0.mk (ng_ hg BK846); replace BK846 := bb BK846 hb; clear hb hbox hg) | ((with_reducible refine gate_callee (f := 105) rfl ?_); refine gL 9 Try.func105 #[.slice A0 l0.length c0] ?_; (with_reducible refine (spec_l1New.calls k _ _ l0 t848 t849 t850 w _ ?side1 ?side2 ?side3 A2.out).mono ?_); (case side1 => repeat (first | (with_reducible first | exact HB.out | apply below_alloc | apply pw_below_drewN | apply below_drew1 | refine below_set ?_ GE845.out | refine below_set ?_ GE846.out | refine below_set ?_ GE847.out) | exact HB.out)); (case side2 => exact HR0.out); (case side3 => exact HC0.out); rintro e w9 ⟨g851, rfl, hi, hb, hb2⟩; refine ⟨_, rfl, ?_⟩; replace HB := Aside0.mk (hb); have HI851 := Aside0.mk (hi); have NB851_845 := Aside0.mk (IsS197.ne_blk hi (blk_below (bk BK845) hb2) (by decide)); have NB845_851 := Aside0.mk (Ne.symm (IsS197.ne_blk hi (blk_below (bk BK845) hb2) (by decide))); replace BK845 := Aside0.mk (blk_below (bk BK845) hb2); have NB851_846 := Aside0.mk (IsS197.ne_blk hi (blk_below (bk BK846) hb2) (by decide)); have NB846_851 := Aside0.mk (Ne.symm (IsS197.ne_blk hi (blk_below (bk BK846) hb2) (by decide))); replace BK846 := Aside0.mk (blk_below (bk BK846) hb2); have NB851_847 := Aside0.mk (IsS197.ne_blk hi (blk_below (bk BK847) hb2) (by decide)); have NB847_851 := Aside0.mk (Ne.symm (IsS197.ne_blk hi (blk_below (bk BK847) hb2) (by decide))); replace BK847 := Aside0.mk (blk_below (bk BK847) hb2); (try clear hb); (try clear hb2); (try clear hk); (try clear hi)) | ((with_reducible refine gate_callee (f := 106) rfl ?_); refine gL 11 Try.func106 #[.pointer (some ⟨g851, 0, none⟩)] ?_; (with_reducible refine (spec_l3Draw.calls k g851 t848 t849 t850 t852 t855 t856 t857 w _ ?side1 ?side2 A3.out).mono ?_); (case side1 => repeat (first | (with_reducible first | exact HI851.out | apply IsS197.alloc | apply IsS197.drewN | apply IsS197.drew | apply IsS197.set_1 | apply IsS197.set_2 | refine IsS197.far ?_ NB851_845.out _ | refine IsS197.far ?_ NB851_846.out _ | refine IsS197.far ?_ NB851_847.out _) | exact HI851.out)); (case side2 => repeat (first | (with_reducible first | exact HB.out | apply below_alloc | apply pw_below_drewN | apply below_drew1 | refine below_set ?_ (IsS197.ge HI851.out) | refine below_set ?_ GE845.out | refine below_set ?_ GE846.out | refine below_set ?_ GE847.out) | exact HB.out)); rintro e w10 ⟨v853, rfl, ho0, hi, hb, hk⟩; refine ⟨_, rfl, ?_⟩; replace BK845 := Aside0.mk (KeepBut.blk hk (g' := gb845) (o := .cells #[.slice none 0 0, .int .i64 0] 65 (0, 0)) (bk BK845) NB845_851.out (by simp)); replace BK846 := Aside0.mk (KeepBut.blk hk (g' := gb846) (o := .cells #[.int .i64 0, .int .i64 0, .int .i64 0] 68 (0, 0)) (bk BK846) NB846_851.out (by simp)); replace BK847 := Aside0.mk (KeepBut.blk hk (g' := gb847) (o := .cells #[.int .i64 0, .slice none 0 0] 70 (0, 0)) (bk BK847) NB847_851.out (by simp)); have HO854 := Aside0.mk (Kd.R_lower ho0 (below_size (IsS197.tb HB))); replace HB := Aside0.mk (hb); replace HI851 := Aside0.mk (hi); (try clear hb); (try clear hb2); (try clear hk); (try clear hi); (try clear ho0)) | ((with_reducible refine gate_dst (N := 6) rfl ?_); refine bx (N := 6) (cs := #[.slice none 0 0, .int .i64 0]) (t := 65) ?_; intro gb858 hg w11 hbox hb; replace HO854 := rb HO854 hb; have BK858 := Aside0.mk (hbox); have GW858 := Aside0.mk ((by rw [hg]; exact (below_size (IsS197.tb HB)) : w.heap.size ≤ gb858)); have GE858 := Aside0.mk ((by rw [hg]; exact (below_size (IsS197.tb HB)) : w.heap.size ≤ gb858)); replace HB := Aside0.mk (below_step (IsS197.tb HB) hb); have NB845_858 := Aside0.mk (nl_ hg BK845); have NB858_845 := Aside0.mk (ng_ hg BK845); replace BK845 := bb BK845 hb; have NB846_858 := Aside0.mk (nl_ hg BK846); have NB858_846 := Aside0.mk (ng_ hg BK846); replace BK846 := bb BK846 hb; have NB847_858 := Aside0.mk (nl_ hg BK847); have NB858_847 := Aside0.mk (ng_ hg BK847); replace BK847 := bb BK847 hb; have NB851_858 := Aside0.mk ((by rw [hg]; exact Nat.ne_of_lt (IsS197.lt (show IsS197 w _ g851 t848 t856 t857 from IsS197.go HI851)) : g851 ≠ gb858)); have NB858_851 := Aside0.mk ((by rw [hg]; exact Nat.ne_of_gt (IsS197.lt (show IsS197 w _ g851 t848 t856 t857 from IsS197.go HI851)) : gb858 ≠ g851)); replace HI851 := Aside0.mk (IsS197.below (IsS197.go HI851) hb); clear hb hbox hg; obtain ⟨Ao12, co12, eo12⟩ := Kd.R_slice HO854.out; subst eo12; have hnb13 := NB858_845.out; have hnc13 := NB845_858.out; have hnb14 := NB858_846.out; have hnc14 := NB846_858.out; have hnb15 := NB858_847.out; have hnc15 := NB847_858.out; have hnb16 := NB858_851.out; have hnc16 := NB851_858.out; obtain ⟨hcz17_0, hcz17_1, hfz17_0, hfz17_1⟩ := c2 BK858) | ((with_reducible refine gate_callee (f := 107) rfl ?_); refine gL 13 Try.func107 #[.pointer (some ⟨g851, 0, none⟩)] ?_; (with_reducible refine (spec_l4Draw.calls k g851 t848 t856 t857 t859 t860 t861 t862 t863 w _ ?side1 ?side2 A4.out).mono ?_); (case side1 => repeat (first | (with_reducible first | exact HI851.out | apply IsS197.alloc | apply IsS197.drewN | apply IsS197.drew | apply IsS197.set_1 | apply IsS197.set_2 | refine IsS197.far ?_ NB851_845.out _ | refine IsS197.far ?_ NB851_846.out _ | refine IsS197.far ?_ NB851_847.out _ | refine IsS197.far ?_ NB851_858.out _) | exact HI851.out)); (case side2 => repeat (first | (with_reducible first | exact HB.out | apply below_alloc | apply pw_below_drewN | apply below_drew1 | refine below_set ?_ (IsS197.ge HI851.out) | refine below_set ?_ GE845.out | refine below_set ?_ GE846.out | refine below_set ?_ GE847.out | refine below_set ?_ GE858.out) | exact HB.out)); rintro e w18 ⟨rfl, hi, hb, hk⟩; refine ⟨_, rfl, ?_⟩; replace BK845 := Aside0.mk (KeepBut.blk hk (g' := gb845) (o := .cells #[.slice none 0 0, .int .i64 0] 65 (0, 0)) (bf BK845) NB845_851.out (by simp)); replace BK846 := Aside0.mk (KeepBut.blk hk (g' := gb846) (o := .cells #[.int .i64 0, .int .i64 0, .int .i64 0] 68 (0, 0)) (bf BK846) NB846_851.out (by simp)); replace BK847 := Aside0.mk (KeepBut.blk hk (g' := gb847) (o := .cells #[.int .i64 0, .slice none 0 0] 70 (0, 0)) (bf BK847) NB847_851.out (by simp)); replace HO854 := Aside0.mk (Kd.R_mono (Kd.R_keep (IsS197.apart (show IsS197 w _ g851 t848 t856 t857 from IsS197.go HI851) (kr ((Kd.R_mono (Kd.R_far (p := ⟨gb858, 1, none⟩) (Kd.R_far (p := ⟨gb858, 0, none⟩) (Kd.R_types HO854.out BK858.out (by decide)) (fun _ hk => hk.2) (.slice Ao12 t852.length co12)) (fun _ hk => hk.2) (.int .i64 t855)) (fun _ h_ => h_.1)))) (by decide)) hk (fun _ h => h.2)) (fun _ h => h.1)); replace BK858 := Aside0.mk (KeepBut.blk hk (g' := gb858) (o := .cells #[.slice Ao12 t852.length co12, .int .i64 t855] 65 (0, 0)) (by (with_reducible repeat (first | refine blk_drewN ?_ _ | refine blk_drew ?_ | refine blk_alloc ?_ _)); refine blk_put (cs := #[.slice Ao12 t852.length co12, .int .i64 0]) ?_ 1 _ rfl; (with_reducible repeat (first | refine blk_drewN ?_ _ | refine blk_drew ?_ | refine blk_alloc ?_ _)); refine blk_put (cs := #[.slice none 0 0, .int .i64 0]) ?_ 0 _ rfl; (with_reducible repeat (first | refine blk_drewN ?_ _ | refine blk_drew ?_ | refine blk_alloc ?_ _)); exact BK858.out) NB858_851.out (by simp)); replace HB := Aside0.mk (hb); replace HI851 := Aside0.mk (hi); (try clear hb); (try clear hb2); (try clear hk); (try clear hi)) | ((with_reducible refine gate_dst (N := 7) rfl ?_); refine bx (N := 7) (cs := #[.int .i64 0, .int .i64 0, .int .i64 0]) (t := 68) ?_; intro gb864 hg w19 hbox hb; replace HO854 := rb HO854 hb; have BK864 := Aside0.mk (hbox); have GW864 := Aside0.mk ((by rw [hg]; exact (below_size (IsS197.tb HB)) : w.heap.size ≤ gb864)); have GE864 := Aside0.mk ((by rw [hg]; exact (below_size (IsS197.tb HB)) : w.heap.size ≤ gb864)); replace HB := Aside0.mk (below_step (IsS197.tb HB) hb); have NB845_864 := Aside0.mk (nl_ hg BK845); have NB864_845 := Aside0.mk (ng_ hg BK845); replace BK845 := bb BK845 hb; have NB846_864 := Aside0.mk (nl_ hg BK846); have NB864_846 := Aside0.mk (ng_ hg BK846); replace BK846 := bb BK846 hb; have NB847_864 := Aside0.mk (nl_ hg BK847); have NB864_847 := Aside0.mk (ng_ hg BK847); replace BK847 := bb BK847 hb; have NB858_864 := Aside0.mk (nl_ hg BK858); have NB864_858 := Aside0.mk (ng_ hg BK858); replace BK858 := bb BK858 hb; have NB851_864 := Aside0.mk ((by rw [hg]; exact Nat.ne_of_lt (IsS197.lt (show IsS197 w _ g851 t848 t862 t863 from IsS197.go HI851)) : g851 ≠ gb864)); have NB864_851 := Aside0.mk ((by rw [hg]; exact Nat.ne_of_gt (IsS197.lt (show IsS197 w _ g851 t848 t862 t863 from IsS197.go HI851)) : gb864 ≠ g851)); replace HI851 := Aside0.mk (IsS197.below (IsS197.go HI851) hb); clear hb hbox hg; have hnb20 := NB864_845.out; have hnc20 := NB845_864.out; have hnb21 := NB864_846.out; have hnc21 := NB846_864.out; have hnb22 := NB864_847.out; have hnc22 := NB847_864.out; have hnb23 := NB864_858.out; have hnc23 := NB858_864.out; have hnb24 := NB864_851.out; have hnc24 := NB851_864.out; obtain ⟨hcz25_0, hcz25_1, hcz25_2, hfz25_0, hfz25_1, hfz25_2⟩ := c3 BK864))
 have n0_ : Aside0 (Kd.R (Kd.int .i64) 3 (((w19.setCell ⟨gb864, 0, none⟩ (.int .i64 t859)).setCell ⟨gb864, 1, none⟩ (.int .i64 t860)).setCell ⟨gb864, 2, none⟩ (.int .i64 t861)) w.heap.size (fun _ => True) (.slice Ao12 t852.length co12) t852) := ⟨by (with_reducible repeat (first | apply Kd.R_alloc | apply Kd.R_drewN | apply Kd.R_drew)); exact Kd.R_mono (Kd.R_far (p := ⟨gb864, 2, none⟩) (Kd.R_far (p := ⟨gb864, 1, none⟩) (Kd.R_far (p := ⟨gb864, 0, none⟩) (Kd.R_types HO854.out BK864.out (by decide)) (fun _ hk => hk.2) (.int .i64 t859)) (fun _ hk => hk.2) (.int .i64 t860)) (fun _ hk => hk.2) (.int .i64 t861)) (fun _ hk => trivial)⟩
 have n1_ : Aside0 ((((w19.setCell ⟨gb864, 0, none⟩ (.int .i64 t859)).setCell ⟨gb864, 1, none⟩ (.int .i64 t860)).setCell ⟨gb864, 2, none⟩ (.int .i64 t861)).heap[gb845]? = some (.cells #[.slice none 0 0, .int .i64 0] 65 (0, 0))) := ⟨bf BK845⟩
 have n2_ : Aside0 ((((w19.setCell ⟨gb864, 0, none⟩ (.int .i64 t859)).setCell ⟨gb864, 1, none⟩ (.int .i64 t860)).setCell ⟨gb864, 2, none⟩ (.int .i64 t861)).heap[gb846]? = some (.cells #[.int .i64 0, .int .i64 0, .int .i64 0] 68 (0, 0))) := ⟨bf BK846⟩
 have n3_ : Aside0 ((((w19.setCell ⟨gb864, 0, none⟩ (.int .i64 t859)).setCell ⟨gb864, 1, none⟩ (.int .i64 t860)).setCell ⟨gb864, 2, none⟩ (.int .i64 t861)).heap[gb847]? = some (.cells #[.int .i64 0, .slice none 0 0] 70 (0, 0))) := ⟨bf BK847⟩
 have n4_ : Aside0 ((((w19.setCell ⟨gb864, 0, none⟩ (.int .i64 t859)).setCell ⟨gb864, 1, none⟩ (.int .i64 t860)).setCell ⟨gb864, 2, none⟩ (.int .i64 t861)).heap[gb858]? = some (.cells #[.slice Ao12 t852.length co12, .int .i64 t855] 65 (0, 0))) := ⟨bf BK858⟩
 have n5_ : Aside0 ((((w19.setCell ⟨gb864, 0, none⟩ (.int .i64 t859)).setCell ⟨gb864, 1, none⟩ (.int .i64 t860)).setCell ⟨gb864, 2, none⟩ (.int .i64 t861)).heap[gb864]? = some (.cells #[.int .i64 t859, .int .i64 t860, .int .i64 t861] 68 (0, 0))) := ⟨by (with_reducible repeat (first | refine blk_drewN ?_ _ | refine blk_drew ?_ | refine blk_alloc ?_ _)); refine blk_put (cs := #[.int .i64 t859, .int .i64 t860, .int .i64 0]) ?_ 2 _ rfl; (with_reducible repeat (first | refine blk_drewN ?_ _ | refine blk_drew ?_ | refine blk_alloc ?_ _)); refine blk_put (cs := #[.int .i64 t859, .int .i64 0, .int .i64 0]) ?_ 1 _ rfl; (with_reducible repeat (first | refine blk_drewN ?_ _ | refine blk_drew ?_ | refine blk_alloc ?_ _)); refine blk_put (cs := #[.int .i64 0, .int .i64 0, .int .i64 0]) ?_ 0 _ rfl; (with_reducible repeat (first | refine blk_drewN ?_ _ | refine blk_drew ?_ | refine blk_alloc ?_ _)); exact BK864.out⟩
 have n6_ : Aside0 (IsS197 w (((w19.setCell ⟨gb864, 0, none⟩ (.int .i64 t859)).setCell ⟨gb864, 1, none⟩ (.int .i64 t860)).setCell ⟨gb864, 2, none⟩ (.int .i64 t861)) g851 t848 t862 t863) := ⟨IsS197.go HI851⟩
 have n7_ : Aside0 (Below w.heap.size w (((w19.setCell ⟨gb864, 0, none⟩ (.int .i64 t859)).setCell ⟨gb864, 1, none⟩ (.int .i64 t860)).setCell ⟨gb864, 2, none⟩ (.int .i64 t861))) := ⟨IsS197.tb HB⟩
 (try clear HO854)
 (try clear BK845)
 (try clear BK846)
 (try clear BK847)
 (try clear BK858)
 (try clear BK864)
 (try clear HI851)
 (try clear HB)
 generalize (((w19.setCell ⟨gb864, 0, none⟩ (.int .i64 t859)).setCell ⟨gb864, 1, none⟩ (.int .i64 t860)).setCell ⟨gb864, 2, none⟩ (.int .i64 t861)) = w26 at n0_ n1_ n2_ n3_ n4_ n5_ n6_ n7_ ⊢
 have HO854 := n0_
 have BK845 := n1_
 have BK846 := n2_
 have BK847 := n3_
 have BK858 := n4_
 have BK864 := n5_
 have HI851 := n6_
 have HB := n7_
 clear n0_ n1_ n2_ n3_ n4_ n5_ n6_ n7_
 replace HO854 := rd_ HO854
 replace BK845 := bd BK845
 replace BK846 := bd BK846
 replace BK847 := bd BK847
 replace BK858 := bd BK858
 replace BK864 := bd BK864
 replace HI851 := Aside0.mk (IsS197.drew HI851.out)
 replace HB := Aside0.mk (below_drew1 HB.out)
 refine start_ (n := 9) (S := fun w' => w'.cell? ⟨gb858, 0, none⟩ = some (.slice Ao12 t852.length co12) ∧ w'.cell? ⟨gb858, 1, none⟩ = some (.int .i64 t855) ∧ w'.cell? ⟨gb864, 0, none⟩ = some (.int .i64 t859) ∧ w'.cell? ⟨gb864, 1, none⟩ = some (.int .i64 t860) ∧ w'.cell? ⟨gb864, 2, none⟩ = some (.int .i64 t861)) (ds := []) #[false, false, false, false, false, false, false, false, false] (by kernel_rfl) rfl rfl ⟨cz BK858 0, cz BK858 1, cz BK864 0, cz BK864 1, cz BK864 2⟩ (fun hHeld => ?_); refine with_tabW spec_DrawAllowed.tab4 spec_DrawAllowed.bits4 (fun HT_ HW_ => ?_)
 generalize w26.drew = w27 at HO854 BK845 BK846 BK847 BK858 BK864 HI851 HB hHeld ⊢
 refine pu 2 16 ?_
 refine ta 0 14 ?_
 refine ta 1 15 ?_
 refine ta 3 17 ?_
 refine ta 4 18 ?_
 refine one_ (i := 5) (N := some 19) #[true, true, true, true, true, true, false, false, false] rfl rfl (one_of HT_.out (by kernel_rfl)) (by decide) (fun K hK => ?_)
 refine gS Try.func108 #[.pointer (some ⟨g851, 0, none⟩), .agg #[.slice Ao12 t852.length co12, .int .i64 t855], .agg #[.int .i64 t859, .int .i64 t860, .int .i64 t861]] ?_
 with_reducible refine (spec_l4DrawRes.calls k g851 t848 t862 t863 _ _ t852 t855 t859 t860 t861 t865 t866 t869 t870 w _ ?side1 ?side2 ?side3 ?side4 ?side5 A5.out).mono ?_
 (case side1 => repeat (first | (with_reducible first | exact HI851.out | apply IsS197.alloc | apply IsS197.drewN | apply IsS197.drew | apply IsS197.set_1 | apply IsS197.set_2 | refine IsS197.far ?_ NB851_845.out _ | refine IsS197.far ?_ NB851_846.out _ | refine IsS197.far ?_ NB851_847.out _ | refine IsS197.far ?_ NB851_858.out _ | refine IsS197.far ?_ NB851_864.out _) | exact HI851.out))
 (case side2 => repeat (first | (with_reducible first | exact HB.out | apply below_alloc | apply pw_below_drewN | apply below_drew1 | refine below_set ?_ (IsS197.ge HI851.out) | refine below_set ?_ GE845.out | refine below_set ?_ GE846.out | refine below_set ?_ GE847.out | refine below_set ?_ GE858.out | refine below_set ?_ GE864.out) | exact HB.out))
 (case side3 => repeat (first | exact (Kd.R_reads' HO854.out).2.2 | (with_reducible refine Kd.C_alloc ?_ _) | (with_reducible refine Kd.C_drewN ?_ _) | (with_reducible refine Kd.C_drew ?_)))
 (case side4 => exact (Kd.R_reads' HO854.out).2.1)
 (case side5 => exact far_slice (IsS197.own_ne HI851.out HO854.out (by decide)))
 rintro e w28 ⟨v867, rfl, ho0, hi, hb, hk⟩
 refine ⟨_, rfl, ?_⟩
 replace BK845 := Aside0.mk (KeepBut.blk hk (g' := gb845) (o := .cells #[.slice none 0 0, .int .i64 0] 65 (0, 0)) (bk BK845) NB845_851.out (by simp))
 replace BK846 := Aside0.mk (KeepBut.blk hk (g' := gb846) (o := .cells #[.int .i64 0, .int .i64 0, .int .i64 0] 68 (0, 0)) (bk BK846) NB846_851.out (by simp))
 replace BK847 := Aside0.mk (KeepBut.blk hk (g' := gb847) (o := .cells #[.int .i64 0, .slice none 0 0] 70 (0, 0)) (bk BK847) NB847_851.out (by simp))
 replace BK858 := Aside0.mk (KeepBut.blk hk (g' := gb858) (o := .cells #[.slice Ao12 t852.length co12, .int .i64 t855] 65 (0, 0)) (bk BK858) NB858_851.out (by simp))
 replace BK864 := Aside0.mk (KeepBut.blk hk (g' := gb864) (o := .cells #[.int .i64 t859, .int .i64 t860, .int .i64 t861] 68 (0, 0)) (bk BK864) NB864_851.out (by simp))
 have HO868 := Aside0.mk (Kd.R_lower (Kd.R_new' ho0 (Kd.R_lt (kr HO854.out))) (below_size (IsS197.tb HB)))
 replace HO854 := Aside0.mk (Kd.R_mono (Kd.R_told (Kd.R_oldK (IsS197.apart (show IsS197 w _ g851 t848 t862 t863 from IsS197.go HI851) (kr HO854.out) (by decide)) hk) (Kd.R_base ho0)) (fun _ h_ => h_.1))
 replace HB := Aside0.mk (hb)
 replace HI851 := Aside0.mk (hi)
 (try clear hb)
 (try clear hb2)
 (try clear hk)
 (try clear hi)
 (try clear ho0)
 obtain ⟨Ao35, co35, eo35⟩ := Kd.R_slice HO868.out
 (first | subst eo35 | (injection eo35 with f1_ f2_ f3_; have f4_ := f1_.symm; have f5_ := f3_.symm; clear f1_ f2_ f3_; subst f4_; subst f5_))
 refine hK.out _ _ ⟨cz BK858 0, cz BK858 1, cz BK864 0, cz BK864 1, cz BK864 2⟩ (fun hHeld => ?_)
 clear hK K
 refine nm 19 ?_
 refine one_ (i := 6) (N := none) #[true, true, true, true, true, true, true, false, false] rfl rfl (one_of HT_.out (by kernel_rfl)) (by decide) (fun K hK => ?_)
 have hs29 : w28.cell? ⟨gb845, 0, none⟩ = some (.slice none 0 0) := cz BK845 0
 have hfs29 := blk_frozen BK845.out 0
 have hns29_1 := NB846_845.out
 have hns29_2 := NB847_845.out
 have hns29_3 := NB858_845.out
 have hns29_4 := NB864_845.out
 have hms29_1 := NB845_846.out
 have hms29_2 := NB845_847.out
 have hms29_3 := NB845_858.out
 have hms29_4 := NB845_864.out
 have hs30 : w28.cell? ⟨gb845, 1, none⟩ = some (.int .i64 0) := cz BK845 1
 have hfs30 := blk_frozen BK845.out 1
 have hns30_1 := NB846_845.out
 have hns30_2 := NB847_845.out
 have hns30_3 := NB858_845.out
 have hns30_4 := NB864_845.out
 have hms30_1 := NB845_846.out
 have hms30_2 := NB845_847.out
 have hms30_3 := NB845_858.out
 have hms30_4 := NB845_864.out
 refine skip_ (w1 := ?_) (by rfl) rfl ?_ ?_
 rotate_left
 ·go_simp
  rfl
 refine hK.out _ _ ⟨((cell_far (p := ⟨gb845, _, none⟩) NB858_845.out _).trans (((cell_far (p := ⟨gb845, _, none⟩) NB858_845.out _).trans (hHeld.1)))), ((cell_far (p := ⟨gb845, _, none⟩) NB858_845.out _).trans (((cell_far (p := ⟨gb845, _, none⟩) NB858_845.out _).trans (hHeld.2.1)))), ((cell_far (p := ⟨gb845, _, none⟩) NB864_845.out _).trans (((cell_far (p := ⟨gb845, _, none⟩) NB864_845.out _).trans (hHeld.2.2.1)))), ((cell_far (p := ⟨gb845, _, none⟩) NB864_845.out _).trans (((cell_far (p := ⟨gb845, _, none⟩) NB864_845.out _).trans (hHeld.2.2.2.1)))), ((cell_far (p := ⟨gb845, _, none⟩) NB864_845.out _).trans (((cell_far (p := ⟨gb845, _, none⟩) NB864_845.out _).trans (hHeld.2.2.2.2))))⟩ (fun hHeld => ?_)
 clear hK K
 refine one_ (i := 7) (N := none) #[true, true, true, true, true, true, true, true, false] rfl rfl (one_of HT_.out (by kernel_rfl)) (by decide) (fun K hK => ?_)
 have hs31 : w28.cell? ⟨gb846, 0, none⟩ = some (.int .i64 0) := cz BK846 0
 have hfs31 := blk_frozen BK846.out 0
 have hns31_0 := NB845_846.out
 have hns31_2 := NB847_846.out
 have hns31_3 := NB858_846.out
 have hns31_4 := NB864_846.out
 have hms31_0 := NB846_845.out
 have hms31_2 := NB846_847.out
 have hms31_3 := NB846_858.out
 have hms31_4 := NB846_864.out
 have hs32 : w28.cell? ⟨gb846, 1, none⟩ = some (.int .i64 0) := cz BK846 1
 have hfs32 := blk_frozen BK846.out 1
 have hns32_0 := NB845_846.out
 have hns32_2 := NB847_846.out
 have hns32_3 := NB858_846.out
 have hns32_4 := NB864_846.out
 have hms32_0 := NB846_845.out
 have hms32_2 := NB846_847.out
 have hms32_3 := NB846_858.out
 have hms32_4 := NB846_864.out
 have hs33 : w28.cell? ⟨gb846, 2, none⟩ = some (.int .i64 0) := cz BK846 2
 have hfs33 := blk_frozen BK846.out 2
 have hns33_0 := NB845_846.out
 have hns33_2 := NB847_846.out
 have hns33_3 := NB858_846.out
 have hns33_4 := NB864_846.out
 have hms33_0 := NB846_845.out
 have hms33_2 := NB846_847.out
 have hms33_3 := NB846_858.out
 have hms33_4 := NB846_864.out
 refine skip_ (w1 := ?_) (by rfl) rfl ?_ ?_
 rotate_left
 ·go_simp
  rfl
 refine hK.out _ _ ⟨((cell_far (p := ⟨gb846, _, none⟩) NB858_846.out _).trans (((cell_far (p := ⟨gb846, _, none⟩) NB858_846.out _).trans (((cell_far (p := ⟨gb846, _, none⟩) NB858_846.out _).trans (hHeld.1)))))), ((cell_far (p := ⟨gb846, _, none⟩) NB858_846.out _).trans (((cell_far (p := ⟨gb846, _, none⟩) NB858_846.out _).trans (((cell_far (p := ⟨gb846, _, none⟩) NB858_846.out _).trans (hHeld.2.1)))))), ((cell_far (p := ⟨gb846, _, none⟩) NB864_846.out _).trans (((cell_far (p := ⟨gb846, _, none⟩) NB864_846.out _).trans (((cell_far (p := ⟨gb846, _, none⟩) NB864_846.out _).trans (hHeld.2.2.1)))))), ((cell_far (p := ⟨gb846, _, none⟩) NB864_846.out _).trans (((cell_far (p := ⟨gb846, _, none⟩) NB864_846.out _).trans (((cell_far (p := ⟨gb846, _, none⟩) NB864_846.out _).trans (hHeld.2.2.2.1)))))), ((cell_far (p := ⟨gb846, _, none⟩) NB864_846.out _).trans (((cell_far (p := ⟨gb846, _, none⟩) NB864_846.out _).trans (((cell_far (p := ⟨gb846, _, none⟩) NB864_846.out _).trans (hHeld.2.2.2.2))))))⟩ (fun hHeld => ?_)
 clear hK K
 refine one_ (i := 8) (N := none) #[true, true, true, true, true, true, true, true, true] rfl rfl (one_of HT_.out (by kernel_rfl)) (by decide) (fun K hK => ?_)
 have hs34 : w28.cell? ⟨gb847, 0, none⟩ = some (.int .i64 0) := cz BK847 0
 have hfs34 := blk_frozen BK847.out 0
 have hns34_0 := NB845_847.out
 have hns34_1 := NB846_847.out
 have hns34_3 := NB858_847.out
 have hns34_4 := NB864_847.out
 have hms34_0 := NB847_845.out
 have hms34_1 := NB847_846.out
 have hms34_3 := NB847_858.out
 have hms34_4 := NB847_864.out
 have hs36 : w28.cell? ⟨gb847, 1, none⟩ = some (.slice none 0 0) := cz BK847 1
 have hfs36 := blk_frozen BK847.out 1
 have hns36_0 := NB845_847.out
 have hns36_1 := NB846_847.out
 have hns36_3 := NB858_847.out
 have hns36_4 := NB864_847.out
 have hms36_0 := NB847_845.out
 have hms36_1 := NB847_846.out
 have hms36_3 := NB847_858.out
 have hms36_4 := NB847_864.out
 refine skip_ (w1 := ?_) (by rfl) rfl ?_ ?_
 rotate_left
 ·go_simp
  rfl
 refine hK.out _ _ ⟨((cell_far (p := ⟨gb847, _, none⟩) NB858_847.out _).trans (((cell_far (p := ⟨gb847, _, none⟩) NB858_847.out _).trans (hHeld.1)))), ((cell_far (p := ⟨gb847, _, none⟩) NB858_847.out _).trans (((cell_far (p := ⟨gb847, _, none⟩) NB858_847.out _).trans (hHeld.2.1)))), ((cell_far (p := ⟨gb847, _, none⟩) NB864_847.out _).trans (((cell_far (p := ⟨gb847, _, none⟩) NB864_847.out _).trans (hHeld.2.2.1)))), ((cell_far (p := ⟨gb847, _, none⟩) NB864_847.out _).trans (((cell_far (p := ⟨gb847, _, none⟩) NB864_847.out _).trans (hHeld.2.2.2.1)))), ((cell_far (p := ⟨gb847, _, none⟩) NB864_847.out _).trans (((cell_far (p := ⟨gb847, _, none⟩) NB864_847.out _).trans (hHeld.2.2.2.2))))⟩ (fun hHeld => ?_)
 clear hK K
 refine done_ (done_of HT_.out (by kernel_rfl)) ?_
 try go_wp2
 refine bodyPost_ret (results_list (rs := [.cell 2 65, .cell 3 68, .cell 4 70]) rfl (by simp) (.cell gb845 65 #[.slice Ao12 t852.length co12, .int .i64 t855] (0, 0) _ rfl (by (with_reducible repeat (first | refine blk_drewN ?_ _ | refine blk_drew ?_ | refine blk_alloc ?_ _)); refine blk_far ?_ NB845_847.out _; (with_reducible repeat (first | refine blk_drewN ?_ _ | refine blk_drew ?_ | refine blk_alloc ?_ _)); refine blk_far ?_ NB845_847.out _; (with_reducible repeat (first | refine blk_drewN ?_ _ | refine blk_drew ?_ | refine blk_alloc ?_ _)); refine blk_far ?_ NB845_846.out _; (with_reducible repeat (first | refine blk_drewN ?_ _ | refine blk_drew ?_ | refine blk_alloc ?_ _)); refine blk_far ?_ NB845_846.out _; (with_reducible repeat (first | refine blk_drewN ?_ _ | refine blk_drew ?_ | refine blk_alloc ?_ _)); refine blk_far ?_ NB845_846.out _; (with_reducible repeat (first | refine blk_drewN ?_ _ | refine blk_drew ?_ | refine blk_alloc ?_ _)); refine blk_put (cs := #[.slice Ao12 t852.length co12, .int .i64 0]) ?_ 1 _ rfl; (with_reducible repeat (first | refine blk_drewN ?_ _ | refine blk_drew ?_ | refine blk_alloc ?_ _)); refine blk_put (cs := #[.slice none 0 0, .int .i64 0]) ?_ 0 _ rfl; (with_reducible repeat (first | refine blk_drewN ?_ _ | refine blk_drew ?_ | refine blk_alloc ?_ _)); exact BK845.out) Try.underlying65 rfl (by kernel_rfl) (.cell gb846 68 #[.int .i64 t859, .int .i64 t860, .int .i64 t861] (0, 0) _ rfl (by (with_reducible repeat (first | refine blk_drewN ?_ _ | refine blk_drew ?_ | refine blk_alloc ?_ _)); refine blk_far ?_ NB846_847.out _; (with_reducible repeat (first | refine blk_drewN ?_ _ | refine blk_drew ?_ | refine blk_alloc ?_ _)); refine blk_far ?_ NB846_847.out _; (with_reducible repeat (first | refine blk_drewN ?_ _ | refine blk_drew ?_ | refine blk_alloc ?_ _)); refine blk_put (cs := #[.int .i64 t859, .int .i64 t860, .int .i64 0]) ?_ 2 _ rfl; (with_reducible repeat (first | refine blk_drewN ?_ _ | refine blk_drew ?_ | refine blk_alloc ?_ _)); refine blk_put (cs := #[.int .i64 t859, .int .i64 0, .int .i64 0]) ?_ 1 _ rfl; (with_reducible repeat (first | refine blk_drewN ?_ _ | refine blk_drew ?_ | refine blk_alloc ?_ _)); refine blk_put (cs := #[.int .i64 0, .int .i64 0, .int .i64 0]) ?_ 0 _ rfl; (with_reducible repeat (first | refine blk_drewN ?_ _ | refine blk_drew ?_ | refine blk_alloc ?_ _)); refine blk_far ?_ NB846_845.out _; (with_reducible repeat (first | refine blk_drewN ?_ _ | refine blk_drew ?_ | refine blk_alloc ?_ _)); refine blk_far ?_ NB846_845.out _; (with_reducible repeat (first | refine blk_drewN ?_ _ | refine blk_drew ?_ | refine blk_alloc ?_ _)); exact BK846.out) Try.underlying68 rfl (by kernel_rfl) (.cell gb847 70 #[.int .i64 t865, .slice Ao35 t866.length co35] (0, 0) _ rfl (by (with_reducible repeat (first | refine blk_drewN ?_ _ | refine blk_drew ?_ | refine blk_alloc ?_ _)); refine blk_put (cs := #[.int .i64 t865, .slice none 0 0]) ?_ 1 _ rfl; (with_reducible repeat (first | refine blk_drewN ?_ _ | refine blk_drew ?_ | refine blk_alloc ?_ _)); refine blk_put (cs := #[.int .i64 0, .slice none 0 0]) ?_ 0 _ rfl; (with_reducible repeat (first | refine blk_drewN ?_ _ | refine blk_drew ?_ | refine blk_alloc ?_ _)); refine blk_far ?_ NB847_846.out _; (with_reducible repeat (first | refine blk_drewN ?_ _ | refine blk_drew ?_ | refine blk_alloc ?_ _)); refine blk_far ?_ NB847_846.out _; (with_reducible repeat (first | refine blk_drewN ?_ _ | refine blk_drew ?_ | refine blk_alloc ?_ _)); refine blk_far ?_ NB847_846.out _; (with_reducible repeat (first | refine blk_drewN ?_ _ | refine blk_drew ?_ | refine blk_alloc ?_ _)); refine blk_far ?_ NB847_845.out _; (with_reducible repeat (first | refine blk_drewN ?_ _ | refine blk_drew ?_ | refine blk_alloc ?_ _)); refine blk_far ?_ NB847_845.out _; (with_reducible repeat (first | refine blk_drewN ?_ _ | refine blk_drew ?_ | refine blk_alloc ?_ _)); exact BK847.out) Try.underlying70 rfl (by kernel_rfl) .nil)))) rfl ?_
 exact ⟨_, _, er, by (with_reducible repeat (first | apply Kd.R_alloc | apply Kd.R_drewN | apply Kd.R_drew)); exact Kd.R_mono (Kd.R_far (p := ⟨gb847, 1, none⟩) (Kd.R_far (p := ⟨gb847, 0, none⟩) (Kd.R_far (p := ⟨gb846, 2, none⟩) (Kd.R_far (p := ⟨gb846, 1, none⟩) (Kd.R_far (p := ⟨gb846, 0, none⟩) (Kd.R_far (p := ⟨gb845, 1, none⟩) (Kd.R_far (p := ⟨gb845, 0, none⟩) (Kd.R_types (Kd.R_types (Kd.R_types HO854.out BK845.out (by decide)) BK846.out (by decide)) BK847.out (by decide)) (fun _ hk => hk.1.1.2) (.slice Ao12 t852.length co12)) (fun _ hk => hk.1.1.2) (.int .i64 t855)) (fun _ hk => hk.1.2) (.int .i64 t859)) (fun _ hk => hk.1.2) (.int .i64 t860)) (fun _ hk => hk.1.2) (.int .i64 t861)) (fun _ hk => hk.2) (.int .i64 t865)) (fun _ hk => hk.2) (.slice Ao35 t866.length co35)) (fun _ hk => hk.1.1.1.2), by (with_reducible repeat (first | apply Kd.R_alloc | apply Kd.R_drewN | apply Kd.R_drew)); exact Kd.R_mono (Kd.R_far (p := ⟨gb847, 1, none⟩) (Kd.R_far (p := ⟨gb847, 0, none⟩) (Kd.R_far (p := ⟨gb846, 2, none⟩) (Kd.R_far (p := ⟨gb846, 1, none⟩) (Kd.R_far (p := ⟨gb846, 0, none⟩) (Kd.R_far (p := ⟨gb845, 1, none⟩) (Kd.R_far (p := ⟨gb845, 0, none⟩) (Kd.R_types (Kd.R_types (Kd.R_types HO868.out BK845.out (by decide)) BK846.out (by decide)) BK847.out (by decide)) (fun _ hk => hk.1.1.2) (.slice Ao12 t852.length co12)) (fun _ hk => hk.1.1.2) (.int .i64 t855)) (fun _ hk => hk.1.2) (.int .i64 t859)) (fun _ hk => hk.1.2) (.int .i64 t860)) (fun _ hk => hk.1.2) (.int .i64 t861)) (fun _ hk => hk.2) (.int .i64 t865)) (fun _ hk => hk.2) (.slice Ao35 t866.length co35)) (fun _ hk => hk.1.1.1.2), IsS197.tb HB⟩
def spec_DrawResSame.f (k : Nat) (l0 : List Int) : Option (Int × List Int × Int × List Int) := (spec_l1New.f k l0).bind fun bt873 => ((spec_l3DrawRight.f k bt873.1 bt873.2.1 bt873.2.2).bind fun bt877 => ((spec_l4DrawRight.f k bt873.1 bt877.2.2.1 bt877.2.2.2).bind fun bt884 => ((spec_l4DrawRes.f k bt873.1 bt884.2.2.2.1 bt884.2.2.2.2 bt877.1 bt877.2.1 bt884.1 bt884.2.1 bt884.2.2.1).bind fun bt889 => ((spec_l1Once.f bt873.1 bt889.2.2.1 bt889.2.2.2 2).bind fun bt896 => (if bt896.1 = true then ((some (([] : List Int) : List Int)).bind fun y899 => (if y899.length + bt889.2.1.length < 17592186044416 then (some (bt889.1, bt889.2.1, bt889.1, (y899 ++ bt889.2.1))) else (none))) else ((spec_l4DrawRight.f k bt873.1 bt896.2.1 bt896.2.2).bind fun bt905 => ((spec_l4DrawRes.f k bt873.1 bt905.2.2.2.1 bt905.2.2.2.2 bt877.1 bt877.2.1 bt905.1 bt905.2.1 bt905.2.2.1).bind fun bt910 => (some (bt889.1, bt889.2.1, bt910.1, bt910.2.1)))))))))
theorem spec_DrawResSame.mono : ∀ a0 k, LeO (spec_DrawResSame.f k a0) (spec_DrawResSame.f (k + 1) a0) := by
 intro a0 k
 unfold spec_DrawResSame.f
 repeat' first
   | (with_reducible exact spec_l1New.mono _ _)
   | (with_reducible exact spec_l3DrawRight.mono _ _ _ _)
   | (with_reducible exact spec_l4DrawRes.mono _ _ _ _ _ _ _ _ _)
   | (with_reducible exact spec_l4DrawRight.mono _ _ _ _)
   | (with_reducible exact LeO.refl _)
   | (with_reducible exact LeO.none _)
   | (with_reducible refine LeO.ite ?_ ?_)
   | (with_reducible refine LeO.bind ?_ (fun _ => ?_))
   | exact spec_l1New.mono _ _
   | exact spec_l3DrawRight.mono _ _ _ _
   | exact spec_l4DrawRes.mono _ _ _ _ _ _ _ _ _
   | exact spec_l4DrawRight.mono _ _ _ _
   | exact LeO.none _
   | refine LeO.ite ?_ ?_
   | refine LeO.bind ?_ (fun _ => ?_)
def spec_DrawResSame.T5 : Bool × List (List Nat × List Nat) := (true, [([], []), ([], []), ([1], [1]), ([], []), ([], []), ([4], [4]), ([3, 5], [3, 5]), ([2, 6], [2, 6]), ([0, 6, 0], [0]), ([7, 8, 0, 1, 2, 3, 4, 5, 6, 7, 8], [7])])
def spec_DrawResSame.B5 : List Nat := [0, 0, 2, 0, 0, 16, 56, 126, 121, 511]
theorem spec_DrawResSame.tab5 : rtab .any (opsOf Try.f47 5) = spec_DrawResSame.T5 := by kernel_rfl
theorem spec_DrawResSame.bits5 : waitsOk spec_DrawResSame.T5.2 spec_DrawResSame.B5 = true := by kernel_rfl
def spec_DrawResSame.T6 : Bool × List (List Nat × List Nat) := (true, [([], []), ([], []), ([], []), ([], []), ([3], [3]), ([1, 2, 4, 4], [1, 2, 4]), ([0, 5, 0], [0]), ([5, 6, 0, 1, 2, 3, 4, 5, 6], [5])])
def spec_DrawResSame.B6 : List Nat := [0, 0, 0, 0, 8, 30, 63, 127]
theorem spec_DrawResSame.tab6 : rtab .any (opsOf Try.f47 6) = spec_DrawResSame.T6 := by kernel_rfl
theorem spec_DrawResSame.bits6 : waitsOk spec_DrawResSame.T6.2 spec_DrawResSame.B6 = true := by kernel_rfl
set_option maxHeartbeats 8000000 in
set_option maxRecDepth 100000 in
theorem spec_DrawResSame.calls (k : Nat) (A0 : Option Addr) (c0 : Nat) (l0 : List Int) (r1 : Int) (r2 : List Int) (r3 : Int) (r4 : List Int) (w : World) (hr0 : Kd.C (Kd.int .u8) w A0 l0.length l0) (hc0 : l0.length ≤ c0) (h : spec_DrawResSame.f k l0 = some (r1, r2, r3, r4)) :
  Calls Try.prog 47 #[.slice A0 l0.length c0] w fun e w' => ∃ v1_ v3_ : Value, e = .returned (.tuple #[.agg #[.int .i64 r1, v1_], .agg #[.int .i64 r3, v3_]]) ∧ Kd.R (Kd.int .i64) 3 w' w.heap.size (fun k_ => some k_ ≠ (v3_ : Value).ownBlock) v1_ r2 ∧ Kd.R (Kd.int .i64) 3 w' w.heap.size (fun k_ => some k_ ≠ (v1_ : Value).ownBlock) v3_ r4 ∧ Below w.heap.size w w' := by
 have hu70 := Try.underlying70
 have hu65 := Try.underlying65
 have HR0 := Aside0.mk hr0
 have HC0 := Aside0.mk hc0
 clear hr0 hc0
 have HB := Aside0.mk (Below.refl w.heap.size w)
 have H : ((spec_l1New.f k l0).bind fun bt873 => ((spec_l3DrawRight.f k bt873.1 bt873.2.1 bt873.2.2).bind fun bt877 => ((spec_l4DrawRight.f k bt873.1 bt877.2.2.1 bt877.2.2.2).bind fun bt884 => ((spec_l4DrawRes.f k bt873.1 bt884.2.2.2.1 bt884.2.2.2.2 bt877.1 bt877.2.1 bt884.1 bt884.2.1 bt884.2.2.1).bind fun bt889 => ((spec_l1Once.f bt873.1 bt889.2.2.1 bt889.2.2.2 2).bind fun bt896 => (if bt896.1 = true then ((some (([] : List Int) : List Int)).bind fun y899 => (if y899.length + bt889.2.1.length < 17592186044416 then (some (bt889.1, bt889.2.1, bt889.1, (y899 ++ bt889.2.1))) else (none))) else ((spec_l4DrawRight.f k bt873.1 bt896.2.1 bt896.2.2).bind fun bt905 => ((spec_l4DrawRes.f k bt873.1 bt905.2.2.2.1 bt905.2.2.2.2 bt877.1 bt877.2.1 bt905.1 bt905.2.1 bt905.2.2.1).bind fun bt910 => (some (bt889.1, bt889.2.1, bt910.1, bt910.2.1)))))))))) = some (r1, r2, r3, r4) := h
 clear h
 replace H := Option.bind_eq_some_iff.mp H
 obtain ⟨⟨t873, t874, t875⟩, A20, H⟩ := H
 replace H : ((spec_l3DrawRight.f k t873 t874 t875).bind fun bt877 => ((spec_l4DrawRight.f k t873 bt877.2.2.1 bt877.2.2.2).bind fun bt884 => ((spec_l4DrawRes.f k t873 bt884.2.2.2.1 bt884.2.2.2.2 bt877.1 bt877.2.1 bt884.1 bt884.2.1 bt884.2.2.1).bind fun bt889 => ((spec_l1Once.f t873 bt889.2.2.1 bt889.2.2.2 2).bind fun bt896 => (if bt896.1 = true then ((some (([] : List Int) : List Int)).bind fun y899 => (if y899.length + bt889.2.1.length < 17592186044416 then (some (bt889.1, bt889.2.1, bt889.1, (y899 ++ bt889.2.1))) else (none))) else ((spec_l4DrawRight.f k t873 bt896.2.1 bt896.2.2).bind fun bt905 => ((spec_l4DrawRes.f k t873 bt905.2.2.2.1 bt905.2.2.2.2 bt877.1 bt877.2.1 bt905.1 bt905.2.1 bt905.2.2.1).bind fun bt910 => (some (bt889.1, bt889.2.1, bt910.1, bt910.2.1))))))))) = some (r1, r2, r3, r4) := H
 have A2 := Aside0.mk A20
 clear A20
 replace H := Option.bind_eq_some_iff.mp H
 obtain ⟨⟨t877, t880, t881, t882⟩, A30, H⟩ := H
 replace H : ((spec_l4DrawRight.f k t873 t881 t882).bind fun bt884 => ((spec_l4DrawRes.f k t873 bt884.2.2.2.1 bt884.2.2.2.2 t877 t880 bt884.1 bt884.2.1 bt884.2.2.1).bind fun bt889 => ((spec_l1Once.f t873 bt889.2.2.1 bt889.2.2.2 2).bind fun bt896 => (if bt896.1 = true then ((some (([] : List Int) : List Int)).bind fun y899 => (if y899.length + bt889.2.1.length < 17592186044416 then (some (bt889.1, bt889.2.1, bt889.1, (y899 ++ bt889.2.1))) else (none))) else ((spec_l4DrawRight.f k t873 bt896.2.1 bt896.2.2).bind fun bt905 => ((spec_l4DrawRes.f k t873 bt905.2.2.2.1 bt905.2.2.2.2 t877 t880 bt905.1 bt905.2.1 bt905.2.2.1).bind fun bt910 => (some (bt889.1, bt889.2.1, bt910.1, bt910.2.1)))))))) = some (r1, r2, r3, r4) := H
 have A3 := Aside0.mk A30
 clear A30
 replace H := Option.bind_eq_some_iff.mp H
 obtain ⟨⟨t884, t885, t886, t887, t888⟩, A40, H⟩ := H
 replace H : ((spec_l4DrawRes.f k t873 t887 t888 t877 t880 t884 t885 t886).bind fun bt889 => ((spec_l1Once.f t873 bt889.2.2.1 bt889.2.2.2 2).bind fun bt896 => (if bt896.1 = true then ((some (([] : List Int) : List Int)).bind fun y899 => (if y899.length + bt889.2.1.length < 17592186044416 then (some (bt889.1, bt889.2.1, bt889.1, (y899 ++ bt889.2.1))) else (none))) else ((spec_l4DrawRight.f k t873 bt896.2.1 bt896.2.2).bind fun bt905 => ((spec_l4DrawRes.f k t873 bt905.2.2.2.1 bt905.2.2.2.2 t877 t880 bt905.1 bt905.2.1 bt905.2.2.1).bind fun bt910 => (some (bt889.1, bt889.2.1, bt910.1, bt910.2.1))))))) = some (r1, r2, r3, r4) := H
 have A4 := Aside0.mk A40
 clear A40
 replace H := Option.bind_eq_some_iff.mp H
 obtain ⟨⟨t889, t890, t893, t894⟩, A50, H⟩ := H
 replace H : ((spec_l1Once.f t873 t893 t894 2).bind fun bt896 => (if bt896.1 = true then ((some (([] : List Int) : List Int)).bind fun y899 => (if y899.length + t890.length < 17592186044416 then (some (t889, t890, t889, (y899 ++ t890))) else (none))) else ((spec_l4DrawRight.f k t873 bt896.2.1 bt896.2.2).bind fun bt905 => ((spec_l4DrawRes.f k t873 bt905.2.2.2.1 bt905.2.2.2.2 t877 t880 bt905.1 bt905.2.1 bt905.2.2.1).bind fun bt910 => (some (t889, t890, bt910.1, bt910.2.1)))))) = some (r1, r2, r3, r4) := H
 have A5 := Aside0.mk A50
 clear A50
 replace H := Option.bind_eq_some_iff.mp H
 obtain ⟨⟨t896, t897, t898⟩, A60, H⟩ := H
 replace H : (if t896 = true then ((some (([] : List Int) : List Int)).bind fun y899 => (if y899.length + t890.length < 17592186044416 then (some (t889, t890, t889, (y899 ++ t890))) else (none))) else ((spec_l4DrawRight.f k t873 t897 t898).bind fun bt905 => ((spec_l4DrawRes.f k t873 bt905.2.2.2.1 bt905.2.2.2.2 t877 t880 bt905.1 bt905.2.1 bt905.2.2.1).bind fun bt910 => (some (t889, t890, bt910.1, bt910.2.1))))) = some (r1, r2, r3, r4) := H
 have A6 := Aside0.mk A60
 clear A60
 by_cases c7 : t896 = true
 ·subst c7
  have H1 : ((some (([] : List Int) : List Int)).bind fun y899 => (if y899.length + t890.length < 17592186044416 then (some (t889, t890, t889, (y899 ++ t890))) else (none))) = some (r1, r2, r3, r4) := by rw [if_pos rfl] at H; exact H
  clear H
  have H := H1
  clear H1
  obtain ⟨y899, hy899⟩ : ∃ y_ : List Int, y_ = (([] : List Int)) := ⟨_, rfl⟩
  replace H : (if y899.length + t890.length < 17592186044416 then (some (t889, t890, t889, (y899 ++ t890))) else (none)) = some (r1, r2, r3, r4) := by first | (rw [hy899]; with_reducible exact H) | (have H2_ := (Option.bind_some _ _).symm.trans H; rw [hy899]; with_reducible exact H2_) | (have H2_ := (Option.bind_some _ _).symm.trans H; with_reducible exact H2_) | with_reducible exact H | (rw [hy899]; exact H) | exact H
  have Ny899 := Aside0.mk hy899
  clear hy899
  by_cases c8 : y899.length + t890.length < 17592186044416
  ·rw [if_pos c8] at H
   have LMc8 := Aside0.mk c8
   clear c8
   obtain ⟨y902, hy902⟩ : ∃ y_ : List Int, y_ = (y899 ++ t890) := ⟨_, rfl⟩
   replace H : (some (t889, t890, t889, y902)) = some (r1, r2, r3, r4) := by first | (rw [hy902]; with_reducible exact H) | (have H2_ := (Option.bind_some _ _).symm.trans H; rw [hy902]; with_reducible exact H2_) | (have H2_ := (Option.bind_some _ _).symm.trans H; with_reducible exact H2_) | with_reducible exact H | (rw [hy902]; exact H) | exact H
   have Ny902 := Aside0.mk hy902
   clear hy902
   simp only [Option.some.injEq, Prod.mk.injEq] at H
   obtain ⟨rfl, rfl, rfl, rfl⟩ := H
   go_enter Try.func47, Try.ntmps47
   try go_wp2_with (first | ((with_reducible refine gate_dst (N := 2) rfl ?_); refine bx (N := 2) (cs := #[.int .i64 0, .slice none 0 0]) (t := 70) ?_; intro gb871 hg w9 hbox hb; have BK871 := Aside0.mk (hbox); have GW871 := Aside0.mk (ge_ hg HB); have GE871 := Aside0.mk (ge_ hg HB); replace HB := bs HB hb; clear hb hbox hg) | ((with_reducible refine gate_dst (N := 3) rfl ?_); refine bx (N := 3) (cs := #[.int .i64 0, .slice none 0 0]) (t := 70) ?_; intro gb872 hg w10 hbox hb; have BK872 := Aside0.mk (hbox); have GW872 := Aside0.mk (ge_ hg HB); have GE872 := Aside0.mk (ge_ hg HB); replace HB := bs HB hb; have NB871_872 := Aside0.mk (nl_ hg BK871); have NB872_871 := Aside0.mk (ng_ hg BK871); replace BK871 := bb BK871 hb; clear hb hbox hg) | ((with_reducible refine gate_callee (f := 105) rfl ?_); refine gL 8 Try.func105 #[.slice A0 l0.length c0] ?_; (with_reducible refine (spec_l1New.calls k _ _ l0 t873 t874 t875 w _ ?side1 ?side2 ?side3 A2.out).mono ?_); (case side1 => repeat (first | (with_reducible first | exact HB.out | apply below_alloc | apply pw_below_drewN | apply below_drew1 | refine below_set ?_ GE871.out | refine below_set ?_ GE872.out) | exact HB.out)); (case side2 => exact HR0.out); (case side3 => exact HC0.out); rintro e w11 ⟨g876, rfl, hi, hb, hb2⟩; refine ⟨_, rfl, ?_⟩; replace HB := Aside0.mk (hb); have HI876 := Aside0.mk (hi); have NB876_871 := Aside0.mk (IsS197.ne_blk hi (blk_below (bk BK871) hb2) (by decide)); have NB871_876 := Aside0.mk (Ne.symm (IsS197.ne_blk hi (blk_below (bk BK871) hb2) (by decide))); replace BK871 := Aside0.mk (blk_below (bk BK871) hb2); have NB876_872 := Aside0.mk (IsS197.ne_blk hi (blk_below (bk BK872) hb2) (by decide)); have NB872_876 := Aside0.mk (Ne.symm (IsS197.ne_blk hi (blk_below (bk BK872) hb2) (by decide))); replace BK872 := Aside0.mk (blk_below (bk BK872) hb2); (try clear hb); (try clear hb2); (try clear hk); (try clear hi)) | ((with_reducible refine gate_callee (f := 112) rfl ?_); refine gL 10 Try.func112 #[.pointer (some ⟨g876, 0, none⟩)] ?_; (with_reducible refine (spec_l3DrawRight.calls k g876 t873 t874 t875 t877 t880 t881 t882 w _ ?side1 ?side2 A3.out).mono ?_); (case side1 => repeat (first | (with_reducible first | exact HI876.out | apply IsS197.alloc | apply IsS197.drewN | apply IsS197.drew | apply IsS197.set_1 | apply IsS197.set_2 | refine IsS197.far ?_ NB876_871.out _ | refine IsS197.far ?_ NB876_872.out _) | exact HI876.out)); (case side2 => repeat (first | (with_reducible first | exact HB.out | apply below_alloc | apply pw_below_drewN | apply below_drew1 | refine below_set ?_ (IsS197.ge HI876.out) | refine below_set ?_ GE871.out | refine below_set ?_ GE872.out) | exact HB.out)); rintro e w12 ⟨v878, rfl, ho0, hi, hb, hk⟩; refine ⟨_, rfl, ?_⟩; replace BK871 := Aside0.mk (KeepBut.blk hk (g' := gb871) (o := .cells #[.int .i64 0, .slice none 0 0] 70 (0, 0)) (bk BK871) NB871_876.out (by simp)); replace BK872 := Aside0.mk (KeepBut.blk hk (g' := gb872) (o := .cells #[.int .i64 0, .slice none 0 0] 70 (0, 0)) (bk BK872) NB872_876.out (by simp)); have HO879 := Aside0.mk (Kd.R_lower ho0 (below_size (IsS197.tb HB))); replace HB := Aside0.mk (hb); replace HI876 := Aside0.mk (hi); (try clear hb); (try clear hb2); (try clear hk); (try clear hi); (try clear ho0)) | ((with_reducible refine gate_dst (N := 5) rfl ?_); refine bx (N := 5) (cs := #[.slice none 0 0, .int .i64 0]) (t := 65) ?_; intro gb883 hg w13 hbox hb; replace HO879 := rb HO879 hb; have BK883 := Aside0.mk (hbox); have GW883 := Aside0.mk ((by rw [hg]; exact (below_size (IsS197.tb HB)) : w.heap.size ≤ gb883)); have GE883 := Aside0.mk ((by rw [hg]; exact (below_size (IsS197.tb HB)) : w.heap.size ≤ gb883)); replace HB := Aside0.mk (below_step (IsS197.tb HB) hb); have NB871_883 := Aside0.mk (nl_ hg BK871); have NB883_871 := Aside0.mk (ng_ hg BK871); replace BK871 := bb BK871 hb; have NB872_883 := Aside0.mk (nl_ hg BK872); have NB883_872 := Aside0.mk (ng_ hg BK872); replace BK872 := bb BK872 hb; have NB876_883 := Aside0.mk ((by rw [hg]; exact Nat.ne_of_lt (IsS197.lt (show IsS197 w _ g876 t873 t881 t882 from IsS197.go HI876)) : g876 ≠ gb883)); have NB883_876 := Aside0.mk ((by rw [hg]; exact Nat.ne_of_gt (IsS197.lt (show IsS197 w _ g876 t873 t881 t882 from IsS197.go HI876)) : gb883 ≠ g876)); replace HI876 := Aside0.mk (IsS197.below (IsS197.go HI876) hb); clear hb hbox hg; obtain ⟨Ao14, co14, eo14⟩ := Kd.R_slice HO879.out; subst eo14; have hnb15 := NB883_871.out; have hnc15 := NB871_883.out; have hnb16 := NB883_872.out; have hnc16 := NB872_883.out; have hnb17 := NB883_876.out; have hnc17 := NB876_883.out; obtain ⟨hcz18_0, hcz18_1, hfz18_0, hfz18_1⟩ := c2 BK883))
   have n0_ : Aside0 (Kd.R (Kd.int .i64) 3 ((w13.setCell ⟨gb883, 0, none⟩ (.slice Ao14 t877.length co14)).setCell ⟨gb883, 1, none⟩ (.int .i64 t880)) w.heap.size (fun _ => True) (.slice Ao14 t877.length co14) t877) := ⟨by (with_reducible repeat (first | apply Kd.R_alloc | apply Kd.R_drewN | apply Kd.R_drew)); exact Kd.R_mono (Kd.R_far (p := ⟨gb883, 1, none⟩) (Kd.R_far (p := ⟨gb883, 0, none⟩) (Kd.R_types HO879.out BK883.out (by decide)) (fun _ hk => hk.2) (.slice Ao14 t877.length co14)) (fun _ hk => hk.2) (.int .i64 t880)) (fun _ hk => trivial)⟩
   have n1_ : Aside0 (((w13.setCell ⟨gb883, 0, none⟩ (.slice Ao14 t877.length co14)).setCell ⟨gb883, 1, none⟩ (.int .i64 t880)).heap[gb871]? = some (.cells #[.int .i64 0, .slice none 0 0] 70 (0, 0))) := ⟨bf BK871⟩
   have n2_ : Aside0 (((w13.setCell ⟨gb883, 0, none⟩ (.slice Ao14 t877.length co14)).setCell ⟨gb883, 1, none⟩ (.int .i64 t880)).heap[gb872]? = some (.cells #[.int .i64 0, .slice none 0 0] 70 (0, 0))) := ⟨bf BK872⟩
   have n3_ : Aside0 (((w13.setCell ⟨gb883, 0, none⟩ (.slice Ao14 t877.length co14)).setCell ⟨gb883, 1, none⟩ (.int .i64 t880)).heap[gb883]? = some (.cells #[.slice Ao14 t877.length co14, .int .i64 t880] 65 (0, 0))) := ⟨by (with_reducible repeat (first | refine blk_drewN ?_ _ | refine blk_drew ?_ | refine blk_alloc ?_ _)); refine blk_put (cs := #[.slice Ao14 t877.length co14, .int .i64 0]) ?_ 1 _ rfl; (with_reducible repeat (first | refine blk_drewN ?_ _ | refine blk_drew ?_ | refine blk_alloc ?_ _)); refine blk_put (cs := #[.slice none 0 0, .int .i64 0]) ?_ 0 _ rfl; (with_reducible repeat (first | refine blk_drewN ?_ _ | refine blk_drew ?_ | refine blk_alloc ?_ _)); exact BK883.out⟩
   have n4_ : Aside0 (IsS197 w ((w13.setCell ⟨gb883, 0, none⟩ (.slice Ao14 t877.length co14)).setCell ⟨gb883, 1, none⟩ (.int .i64 t880)) g876 t873 t881 t882) := ⟨IsS197.go HI876⟩
   have n5_ : Aside0 (Below w.heap.size w ((w13.setCell ⟨gb883, 0, none⟩ (.slice Ao14 t877.length co14)).setCell ⟨gb883, 1, none⟩ (.int .i64 t880))) := ⟨IsS197.tb HB⟩
   (try clear HO879)
   (try clear BK871)
   (try clear BK872)
   (try clear BK883)
   (try clear HI876)
   (try clear HB)
   generalize ((w13.setCell ⟨gb883, 0, none⟩ (.slice Ao14 t877.length co14)).setCell ⟨gb883, 1, none⟩ (.int .i64 t880)) = w19 at n0_ n1_ n2_ n3_ n4_ n5_ ⊢
   have HO879 := n0_
   have BK871 := n1_
   have BK872 := n2_
   have BK883 := n3_
   have HI876 := n4_
   have HB := n5_
   clear n0_ n1_ n2_ n3_ n4_ n5_
   replace HO879 := rd_ HO879
   replace BK871 := bd BK871
   replace BK872 := bd BK872
   replace BK883 := bd BK883
   replace HI876 := Aside0.mk (IsS197.drew HI876.out)
   replace HB := Aside0.mk (below_drew1 HB.out)
   refine start_ (n := 7) (S := fun w' => w'.cell? ⟨gb883, 0, none⟩ = some (.slice Ao14 t877.length co14) ∧ w'.cell? ⟨gb883, 1, none⟩ = some (.int .i64 t880)) (ds := []) #[false, false, false, false, false, false, false] (by kernel_rfl) rfl rfl ⟨cz BK883 0, cz BK883 1⟩ (fun hHeld => ?_)
   generalize w19.drew = w20 at HO879 BK871 BK872 BK883 HI876 HB hHeld ⊢
   refine pu 0 11 ?_
   refine pu 2 13 ?_
   refine ta 1 12 ?_
   refine join_ (σ := Value × Nat) 1 #[true, true, true, true, true, true, false] (fun s_ => [(14, .agg #[.int .i64 t884, .int .i64 t885, .int .i64 t886]), (15, .agg #[.int .i64 t889, s_.1]), (6, .pointer (some ⟨s_.2, 0, none⟩))]) (fun s_ w' => (w'.cell? ⟨gb883, 0, none⟩ = some (.slice Ao14 t877.length co14) ∧ w'.cell? ⟨gb883, 1, none⟩ = some (.int .i64 t880)) ∧ Aside0 (Kd.R (Kd.int .i64) 3 w' w.heap.size (fun k_ => some k_ ≠ (s_.1 : Value).ownBlock) (.slice Ao14 t877.length co14) t877) ∧ Aside0 (Kd.R (Kd.int .i64) 3 w' w.heap.size (fun k_ => some k_ ≠ (.slice Ao14 t877.length co14 : Value).ownBlock) s_.1 t890) ∧ Aside0 (w'.heap[gb871]? = some (.cells #[.int .i64 0, .slice none 0 0] 70 (0, 0))) ∧ Aside0 (w'.heap[gb872]? = some (.cells #[.int .i64 0, .slice none 0 0] 70 (0, 0))) ∧ Aside0 (w'.heap[gb883]? = some (.cells #[.slice Ao14 t877.length co14, .int .i64 t880] 65 (0, 0))) ∧ Aside0 (w'.heap[s_.2]? = some (.cells #[.int .i64 0, .slice none 0 0] 70 (0, 0))) ∧ Aside0 (w.heap.size ≤ s_.2) ∧ Aside0 (w.heap.size ≤ s_.2) ∧ Aside0 (g876 ≠ s_.2) ∧ Aside0 (s_.2 ≠ g876) ∧ Aside0 (gb871 ≠ s_.2) ∧ Aside0 (s_.2 ≠ gb871) ∧ Aside0 (gb872 ≠ s_.2) ∧ Aside0 (s_.2 ≠ gb872) ∧ Aside0 (gb883 ≠ s_.2) ∧ Aside0 (s_.2 ≠ gb883) ∧ Aside0 (IsS197 w w' g876 t873 t893 t894) ∧ Aside0 (Below w.heap.size w w')) ?_ ?_
   rotate_left
   ·intro hCont
    refine two_ (i := 3) (j := 5) (Ni := some 14) (Nj := some 6) #[true, true, true, true, false, false, false] #[true, true, true, false, false, true, false] rfl rfl rfl rfl (by kernel_rfl) (by decide) (by decide) (fun K hK => ?_) (fun K hK => ?_)
    ·skip
     refine gS Try.func113 #[.pointer (some ⟨g876, 0, none⟩)] ?_
     with_reducible refine (spec_l4DrawRight.calls k g876 t873 t881 t882 t884 t885 t886 t887 t888 w _ ?side1 ?side2 A4.out).mono ?_
     (case side1 => repeat (first | (with_reducible first | exact HI876.out | apply IsS197.alloc | apply IsS197.drewN | apply IsS197.drew | apply IsS197.set_1 | apply IsS197.set_2 | refine IsS197.far ?_ NB876_871.out _ | refine IsS197.far ?_ NB876_872.out _ | refine IsS197.far ?_ NB876_883.out _) | exact HI876.out))
     (case side2 => repeat (first | (with_reducible first | exact HB.out | apply below_alloc | apply pw_below_drewN | apply below_drew1 | refine below_set ?_ (IsS197.ge HI876.out) | refine below_set ?_ GE871.out | refine below_set ?_ GE872.out | refine below_set ?_ GE883.out) | exact HB.out))
     rintro e w21 ⟨rfl, hi, hb, hk⟩
     refine ⟨_, rfl, ?_⟩
     replace BK871 := Aside0.mk (KeepBut.blk hk (g' := gb871) (o := .cells #[.int .i64 0, .slice none 0 0] 70 (0, 0)) (bk BK871) NB871_876.out (by simp))
     replace BK872 := Aside0.mk (KeepBut.blk hk (g' := gb872) (o := .cells #[.int .i64 0, .slice none 0 0] 70 (0, 0)) (bk BK872) NB872_876.out (by simp))
     replace HO879 := Aside0.mk (Kd.R_mono (Kd.R_keep (IsS197.apart (show IsS197 w _ g876 t873 t881 t882 from IsS197.go HI876) (kr HO879.out) (by decide)) hk (fun _ h => h.2)) (fun _ h => h.1))
     replace BK883 := Aside0.mk (KeepBut.blk hk (g' := gb883) (o := .cells #[.slice Ao14 t877.length co14, .int .i64 t880] 65 (0, 0)) (bk BK883) NB883_876.out (by simp))
     replace HB := Aside0.mk (hb)
     replace HI876 := Aside0.mk (hi)
     (try clear hb)
     (try clear hb2)
     (try clear hk)
     (try clear hi)
     refine hK.out _ _ ⟨cz BK883 0, cz BK883 1⟩ (fun hHeld => ?_)
     clear hK K
     refine nm 14 ?_
     refine two_ (i := 4) (j := 5) (Ni := some 15) (Nj := some 6) #[true, true, true, true, true, false, false] #[true, true, true, true, false, true, false] rfl rfl rfl rfl (by kernel_rfl) (by decide) (by decide) (fun K hK => ?_) (fun K hK => ?_)
     ·skip
      refine gS Try.func108 #[.pointer (some ⟨g876, 0, none⟩), .agg #[.slice Ao14 t877.length co14, .int .i64 t880], .agg #[.int .i64 t884, .int .i64 t885, .int .i64 t886]] ?_
      with_reducible refine (spec_l4DrawRes.calls k g876 t873 t887 t888 _ _ t877 t880 t884 t885 t886 t889 t890 t893 t894 w _ ?side1 ?side2 ?side3 ?side4 ?side5 A5.out).mono ?_
      (case side1 => repeat (first | (with_reducible first | exact HI876.out | apply IsS197.alloc | apply IsS197.drewN | apply IsS197.drew | apply IsS197.set_1 | apply IsS197.set_2 | refine IsS197.far ?_ NB876_871.out _ | refine IsS197.far ?_ NB876_872.out _ | refine IsS197.far ?_ NB876_883.out _) | exact HI876.out))
      (case side2 => repeat (first | (with_reducible first | exact HB.out | apply below_alloc | apply pw_below_drewN | apply below_drew1 | refine below_set ?_ (IsS197.ge HI876.out) | refine below_set ?_ GE871.out | refine below_set ?_ GE872.out | refine below_set ?_ GE883.out) | exact HB.out))
      (case side3 => repeat (first | exact (Kd.R_reads' HO879.out).2.2 | (with_reducible refine Kd.C_alloc ?_ _) | (with_reducible refine Kd.C_drewN ?_ _) | (with_reducible refine Kd.C_drew ?_)))
      (case side4 => exact (Kd.R_reads' HO879.out).2.1)
      (case side5 => exact far_slice (IsS197.own_ne HI876.out HO879.out (by decide)))
      rintro e w22 ⟨v891, rfl, ho0, hi, hb, hk⟩
      refine ⟨_, rfl, ?_⟩
      replace BK871 := Aside0.mk (KeepBut.blk hk (g' := gb871) (o := .cells #[.int .i64 0, .slice none 0 0] 70 (0, 0)) (bk BK871) NB871_876.out (by simp))
      replace BK872 := Aside0.mk (KeepBut.blk hk (g' := gb872) (o := .cells #[.int .i64 0, .slice none 0 0] 70 (0, 0)) (bk BK872) NB872_876.out (by simp))
      replace BK883 := Aside0.mk (KeepBut.blk hk (g' := gb883) (o := .cells #[.slice Ao14 t877.length co14, .int .i64 t880] 65 (0, 0)) (bk BK883) NB883_876.out (by simp))
      have HO892 := Aside0.mk (Kd.R_lower (Kd.R_new' ho0 (Kd.R_lt (kr HO879.out))) (below_size (IsS197.tb HB)))
      replace HO879 := Aside0.mk (Kd.R_mono (Kd.R_told (Kd.R_oldK (IsS197.apart (show IsS197 w _ g876 t873 t887 t888 from IsS197.go HI876) (kr HO879.out) (by decide)) hk) (Kd.R_base ho0)) (fun _ h_ => h_.1))
      replace HB := Aside0.mk (hb)
      replace HI876 := Aside0.mk (hi)
      (try clear hb)
      (try clear hb2)
      (try clear hk)
      (try clear hi)
      (try clear ho0)
      refine hK.out _ _ ⟨cz BK883 0, cz BK883 1⟩ (fun hHeld => ?_)
      clear hK K
      refine nm 15 ?_
      refine one_ (i := 5) (N := some 6) #[true, true, true, true, true, true, false] rfl rfl (by kernel_rfl) (by decide) (fun K hK => ?_)
      refine bxs (N := 6) (cs := #[.int .i64 0, .slice none 0 0]) (t := 70) ?_
      intro gb895 hg w23 hbox hb
      replace HO879 := rb HO879 hb
      replace HO892 := rb HO892 hb
      have BK895 := Aside0.mk (hbox)
      have GW895 := Aside0.mk ((by rw [hg]; exact (below_size (IsS197.tb HB)) : w.heap.size ≤ gb895))
      have GE895 := Aside0.mk ((by rw [hg]; exact (below_size (IsS197.tb HB)) : w.heap.size ≤ gb895))
      replace HB := Aside0.mk (below_step (IsS197.tb HB) hb)
      have NB871_895 := Aside0.mk (nl_ hg BK871)
      have NB895_871 := Aside0.mk (ng_ hg BK871)
      replace BK871 := bb BK871 hb
      have NB872_895 := Aside0.mk (nl_ hg BK872)
      have NB895_872 := Aside0.mk (ng_ hg BK872)
      replace BK872 := bb BK872 hb
      have NB883_895 := Aside0.mk (nl_ hg BK883)
      have NB895_883 := Aside0.mk (ng_ hg BK883)
      replace BK883 := bb BK883 hb
      have NB876_895 := Aside0.mk ((by rw [hg]; exact Nat.ne_of_lt (IsS197.lt (show IsS197 w _ g876 t873 t893 t894 from IsS197.go HI876)) : g876 ≠ gb895))
      have NB895_876 := Aside0.mk ((by rw [hg]; exact Nat.ne_of_gt (IsS197.lt (show IsS197 w _ g876 t873 t893 t894 from IsS197.go HI876)) : gb895 ≠ g876))
      replace HI876 := Aside0.mk (IsS197.below (IsS197.go HI876) hb)
      clear hb hbox hg
      refine hK.out _ _ ⟨cz BK883 0, cz BK883 1⟩ (fun hHeld => ?_)
      clear hK K
      refine nm 6 ?_
      exact norm_ (by simp only [putAll, Act.put, sA, sB, sC]) (hCont (v891, gb895) _ ⟨hHeld, ⟨kr (Kd.R_mono HO879.out (fun _ hk => hk.2))⟩, ⟨kr (Kd.R_mono HO892.out (fun _ hk => hk.2))⟩, ⟨bk BK871⟩, ⟨bk BK872⟩, ⟨bk BK883⟩, ⟨bk BK895⟩, GW895, GE895, NB876_895, NB895_876, NB871_895, NB895_871, NB872_895, NB895_872, NB883_895, NB895_883, ⟨IsS197.go HI876⟩, ⟨IsS197.tb HB⟩⟩)
     ·skip
      refine bxs (N := 6) (cs := #[.int .i64 0, .slice none 0 0]) (t := 70) ?_
      intro gb895 hg w22 hbox hb
      replace HO879 := rb HO879 hb
      have BK895 := Aside0.mk (hbox)
      have GW895 := Aside0.mk ((by rw [hg]; exact (below_size (IsS197.tb HB)) : w.heap.size ≤ gb895))
      have GE895 := Aside0.mk ((by rw [hg]; exact (below_size (IsS197.tb HB)) : w.heap.size ≤ gb895))
      replace HB := Aside0.mk (below_step (IsS197.tb HB) hb)
      have NB871_895 := Aside0.mk (nl_ hg BK871)
      have NB895_871 := Aside0.mk (ng_ hg BK871)
      replace BK871 := bb BK871 hb
      have NB872_895 := Aside0.mk (nl_ hg BK872)
      have NB895_872 := Aside0.mk (ng_ hg BK872)
      replace BK872 := bb BK872 hb
      have NB883_895 := Aside0.mk (nl_ hg BK883)
      have NB895_883 := Aside0.mk (ng_ hg BK883)
      replace BK883 := bb BK883 hb
      have NB876_895 := Aside0.mk ((by rw [hg]; exact Nat.ne_of_lt (IsS197.lt (show IsS197 w _ g876 t873 t887 t888 from IsS197.go HI876)) : g876 ≠ gb895))
      have NB895_876 := Aside0.mk ((by rw [hg]; exact Nat.ne_of_gt (IsS197.lt (show IsS197 w _ g876 t873 t887 t888 from IsS197.go HI876)) : gb895 ≠ g876))
      replace HI876 := Aside0.mk (IsS197.below (IsS197.go HI876) hb)
      clear hb hbox hg
      refine hK.out _ _ ⟨cz BK883 0, cz BK883 1⟩ (fun hHeld => ?_)
      clear hK K
      refine nm 6 ?_
      refine one_ (i := 4) (N := some 15) #[true, true, true, true, true, true, false] rfl rfl (by kernel_rfl) (by decide) (fun K hK => ?_)
      refine gS Try.func108 #[.pointer (some ⟨g876, 0, none⟩), .agg #[.slice Ao14 t877.length co14, .int .i64 t880], .agg #[.int .i64 t884, .int .i64 t885, .int .i64 t886]] ?_
      with_reducible refine (spec_l4DrawRes.calls k g876 t873 t887 t888 _ _ t877 t880 t884 t885 t886 t889 t890 t893 t894 w _ ?side1 ?side2 ?side3 ?side4 ?side5 A5.out).mono ?_
      (case side1 => repeat (first | (with_reducible first | exact HI876.out | apply IsS197.alloc | apply IsS197.drewN | apply IsS197.drew | apply IsS197.set_1 | apply IsS197.set_2 | refine IsS197.far ?_ NB876_871.out _ | refine IsS197.far ?_ NB876_872.out _ | refine IsS197.far ?_ NB876_883.out _ | refine IsS197.far ?_ NB876_895.out _) | exact HI876.out))
      (case side2 => repeat (first | (with_reducible first | exact HB.out | apply below_alloc | apply pw_below_drewN | apply below_drew1 | refine below_set ?_ (IsS197.ge HI876.out) | refine below_set ?_ GE871.out | refine below_set ?_ GE872.out | refine below_set ?_ GE883.out | refine below_set ?_ GE895.out) | exact HB.out))
      (case side3 => repeat (first | exact (Kd.R_reads' HO879.out).2.2 | (with_reducible refine Kd.C_alloc ?_ _) | (with_reducible refine Kd.C_drewN ?_ _) | (with_reducible refine Kd.C_drew ?_)))
      (case side4 => exact (Kd.R_reads' HO879.out).2.1)
      (case side5 => exact far_slice (IsS197.own_ne HI876.out HO879.out (by decide)))
      rintro e w23 ⟨v891, rfl, ho0, hi, hb, hk⟩
      refine ⟨_, rfl, ?_⟩
      replace BK871 := Aside0.mk (KeepBut.blk hk (g' := gb871) (o := .cells #[.int .i64 0, .slice none 0 0] 70 (0, 0)) (bk BK871) NB871_876.out (by simp))
      replace BK872 := Aside0.mk (KeepBut.blk hk (g' := gb872) (o := .cells #[.int .i64 0, .slice none 0 0] 70 (0, 0)) (bk BK872) NB872_876.out (by simp))
      replace BK883 := Aside0.mk (KeepBut.blk hk (g' := gb883) (o := .cells #[.slice Ao14 t877.length co14, .int .i64 t880] 65 (0, 0)) (bk BK883) NB883_876.out (by simp))
      replace BK895 := Aside0.mk (KeepBut.blk hk (g' := gb895) (o := .cells #[.int .i64 0, .slice none 0 0] 70 (0, 0)) (bk BK895) NB895_876.out (by simp))
      have HO892 := Aside0.mk (Kd.R_lower (Kd.R_new' ho0 (Kd.R_lt (kr HO879.out))) (below_size (IsS197.tb HB)))
      replace HO879 := Aside0.mk (Kd.R_mono (Kd.R_told (Kd.R_oldK (IsS197.apart (show IsS197 w _ g876 t873 t887 t888 from IsS197.go HI876) (kr HO879.out) (by decide)) hk) (Kd.R_base ho0)) (fun _ h_ => h_.1))
      replace HB := Aside0.mk (hb)
      replace HI876 := Aside0.mk (hi)
      (try clear hb)
      (try clear hb2)
      (try clear hk)
      (try clear hi)
      (try clear ho0)
      refine hK.out _ _ ⟨cz BK883 0, cz BK883 1⟩ (fun hHeld => ?_)
      clear hK K
      refine nm 15 ?_
      exact norm_ (by simp only [putAll, Act.put, sA, sB, sC]) (hCont (v891, gb895) _ ⟨hHeld, ⟨kr (Kd.R_mono HO879.out (fun _ hk => hk.2))⟩, ⟨kr (Kd.R_mono HO892.out (fun _ hk => hk.2))⟩, ⟨bk BK871⟩, ⟨bk BK872⟩, ⟨bk BK883⟩, ⟨bk BK895⟩, GW895, GE895, NB876_895, NB895_876, NB871_895, NB895_871, NB872_895, NB895_872, NB883_895, NB895_883, ⟨IsS197.go HI876⟩, ⟨IsS197.tb HB⟩⟩)
    ·skip
     refine bxs (N := 6) (cs := #[.int .i64 0, .slice none 0 0]) (t := 70) ?_
     intro gb895 hg w21 hbox hb
     replace HO879 := rb HO879 hb
     have BK895 := Aside0.mk (hbox)
     have GW895 := Aside0.mk ((by rw [hg]; exact (below_size (IsS197.tb HB)) : w.heap.size ≤ gb895))
     have GE895 := Aside0.mk ((by rw [hg]; exact (below_size (IsS197.tb HB)) : w.heap.size ≤ gb895))
     replace HB := Aside0.mk (below_step (IsS197.tb HB) hb)
     have NB871_895 := Aside0.mk (nl_ hg BK871)
     have NB895_871 := Aside0.mk (ng_ hg BK871)
     replace BK871 := bb BK871 hb
     have NB872_895 := Aside0.mk (nl_ hg BK872)
     have NB895_872 := Aside0.mk (ng_ hg BK872)
     replace BK872 := bb BK872 hb
     have NB883_895 := Aside0.mk (nl_ hg BK883)
     have NB895_883 := Aside0.mk (ng_ hg BK883)
     replace BK883 := bb BK883 hb
     have NB876_895 := Aside0.mk ((by rw [hg]; exact Nat.ne_of_lt (IsS197.lt (show IsS197 w _ g876 t873 t881 t882 from IsS197.go HI876)) : g876 ≠ gb895))
     have NB895_876 := Aside0.mk ((by rw [hg]; exact Nat.ne_of_gt (IsS197.lt (show IsS197 w _ g876 t873 t881 t882 from IsS197.go HI876)) : gb895 ≠ g876))
     replace HI876 := Aside0.mk (IsS197.below (IsS197.go HI876) hb)
     clear hb hbox hg
     refine hK.out _ _ ⟨cz BK883 0, cz BK883 1⟩ (fun hHeld => ?_)
     clear hK K
     refine nm 6 ?_
     refine one_ (i := 3) (N := some 14) #[true, true, true, true, false, true, false] rfl rfl (by kernel_rfl) (by decide) (fun K hK => ?_)
     refine gS Try.func113 #[.pointer (some ⟨g876, 0, none⟩)] ?_
     with_reducible refine (spec_l4DrawRight.calls k g876 t873 t881 t882 t884 t885 t886 t887 t888 w _ ?side1 ?side2 A4.out).mono ?_
     (case side1 => repeat (first | (with_reducible first | exact HI876.out | apply IsS197.alloc | apply IsS197.drewN | apply IsS197.drew | apply IsS197.set_1 | apply IsS197.set_2 | refine IsS197.far ?_ NB876_871.out _ | refine IsS197.far ?_ NB876_872.out _ | refine IsS197.far ?_ NB876_883.out _ | refine IsS197.far ?_ NB876_895.out _) | exact HI876.out))
     (case side2 => repeat (first | (with_reducible first | exact HB.out | apply below_alloc | apply pw_below_drewN | apply below_drew1 | refine below_set ?_ (IsS197.ge HI876.out) | refine below_set ?_ GE871.out | refine below_set ?_ GE872.out | refine below_set ?_ GE883.out | refine below_set ?_ GE895.out) | exact HB.out))
     rintro e w22 ⟨rfl, hi, hb, hk⟩
     refine ⟨_, rfl, ?_⟩
     replace BK871 := Aside0.mk (KeepBut.blk hk (g' := gb871) (o := .cells #[.int .i64 0, .slice none 0 0] 70 (0, 0)) (bk BK871) NB871_876.out (by simp))
     replace BK872 := Aside0.mk (KeepBut.blk hk (g' := gb872) (o := .cells #[.int .i64 0, .slice none 0 0] 70 (0, 0)) (bk BK872) NB872_876.out (by simp))
     replace HO879 := Aside0.mk (Kd.R_mono (Kd.R_keep (IsS197.apart (show IsS197 w _ g876 t873 t881 t882 from IsS197.go HI876) (kr HO879.out) (by decide)) hk (fun _ h => h.2)) (fun _ h => h.1))
     replace BK883 := Aside0.mk (KeepBut.blk hk (g' := gb883) (o := .cells #[.slice Ao14 t877.length co14, .int .i64 t880] 65 (0, 0)) (bk BK883) NB883_876.out (by simp))
     replace BK895 := Aside0.mk (KeepBut.blk hk (g' := gb895) (o := .cells #[.int .i64 0, .slice none 0 0] 70 (0, 0)) (bk BK895) NB895_876.out (by simp))
     replace HB := Aside0.mk (hb)
     replace HI876 := Aside0.mk (hi)
     (try clear hb)
     (try clear hb2)
     (try clear hk)
     (try clear hi)
     refine hK.out _ _ ⟨cz BK883 0, cz BK883 1⟩ (fun hHeld => ?_)
     clear hK K
     refine nm 14 ?_
     refine one_ (i := 4) (N := some 15) #[true, true, true, true, true, true, false] rfl rfl (by kernel_rfl) (by decide) (fun K hK => ?_)
     refine gS Try.func108 #[.pointer (some ⟨g876, 0, none⟩), .agg #[.slice Ao14 t877.length co14, .int .i64 t880], .agg #[.int .i64 t884, .int .i64 t885, .int .i64 t886]] ?_
     with_reducible refine (spec_l4DrawRes.calls k g876 t873 t887 t888 _ _ t877 t880 t884 t885 t886 t889 t890 t893 t894 w _ ?side1 ?side2 ?side3 ?side4 ?side5 A5.out).mono ?_
     (case side1 => repeat (first | (with_reducible first | exact HI876.out | apply IsS197.alloc | apply IsS197.drewN | apply IsS197.drew | apply IsS197.set_1 | apply IsS197.set_2 | refine IsS197.far ?_ NB876_871.out _ | refine IsS197.far ?_ NB876_872.out _ | refine IsS197.far ?_ NB876_883.out _ | refine IsS197.far ?_ NB876_895.out _) | exact HI876.out))
     (case side2 => repeat (first | (with_reducible first | exact HB.out | apply below_alloc | apply pw_below_drewN | apply below_drew1 | refine below_set ?_ (IsS197.ge HI876.out) | refine below_set ?_ GE871.out | refine below_set ?_ GE872.out | refine below_set ?_ GE883.out | refine below_set ?_ GE895.out) | exact HB.out))
     (case side3 => repeat (first | exact (Kd.R_reads' HO879.out).2.2 | (with_reducible refine Kd.C_alloc ?_ _) | (with_reducible refine Kd.C_drewN ?_ _) | (with_reducible refine Kd.C_drew ?_)))
     (case side4 => exact (Kd.R_reads' HO879.out).2.1)
     (case side5 => exact far_slice (IsS197.own_ne HI876.out HO879.out (by decide)))
     rintro e w23 ⟨v891, rfl, ho0, hi, hb, hk⟩
     refine ⟨_, rfl, ?_⟩
     replace BK871 := Aside0.mk (KeepBut.blk hk (g' := gb871) (o := .cells #[.int .i64 0, .slice none 0 0] 70 (0, 0)) (bk BK871) NB871_876.out (by simp))
     replace BK872 := Aside0.mk (KeepBut.blk hk (g' := gb872) (o := .cells #[.int .i64 0, .slice none 0 0] 70 (0, 0)) (bk BK872) NB872_876.out (by simp))
     replace BK883 := Aside0.mk (KeepBut.blk hk (g' := gb883) (o := .cells #[.slice Ao14 t877.length co14, .int .i64 t880] 65 (0, 0)) (bk BK883) NB883_876.out (by simp))
     replace BK895 := Aside0.mk (KeepBut.blk hk (g' := gb895) (o := .cells #[.int .i64 0, .slice none 0 0] 70 (0, 0)) (bk BK895) NB895_876.out (by simp))
     have HO892 := Aside0.mk (Kd.R_lower (Kd.R_new' ho0 (Kd.R_lt (kr HO879.out))) (below_size (IsS197.tb HB)))
     replace HO879 := Aside0.mk (Kd.R_mono (Kd.R_told (Kd.R_oldK (IsS197.apart (show IsS197 w _ g876 t873 t887 t888 from IsS197.go HI876) (kr HO879.out) (by decide)) hk) (Kd.R_base ho0)) (fun _ h_ => h_.1))
     replace HB := Aside0.mk (hb)
     replace HI876 := Aside0.mk (hi)
     (try clear hb)
     (try clear hb2)
     (try clear hk)
     (try clear hi)
     (try clear ho0)
     refine hK.out _ _ ⟨cz BK883 0, cz BK883 1⟩ (fun hHeld => ?_)
     clear hK K
     refine nm 15 ?_
     exact norm_ (by simp only [putAll, Act.put, sA, sB, sC]) (hCont (v891, gb895) _ ⟨hHeld, ⟨kr (Kd.R_mono HO879.out (fun _ hk => hk.2))⟩, ⟨kr (Kd.R_mono HO892.out (fun _ hk => hk.2))⟩, ⟨bk BK871⟩, ⟨bk BK872⟩, ⟨bk BK883⟩, ⟨bk BK895⟩, GW895, GE895, NB876_895, NB895_876, NB871_895, NB895_871, NB872_895, NB895_872, NB883_895, NB895_883, ⟨IsS197.go HI876⟩, ⟨IsS197.tb HB⟩⟩)
   clear HO879 BK871 BK872 BK883 HI876 HB
   rintro ⟨v891, gb895⟩ w24 ⟨hHeld, HO879, HO892, BK871, BK872, BK883, BK895, GW895, GE895, NB876_895, NB895_876, NB871_895, NB895_871, NB872_895, NB895_872, NB883_895, NB895_883, HI876, HB⟩
   dsimp only at HO879 HO892 BK895 GW895 GE895 NB876_895 NB895_876 NB871_895 NB895_871 NB872_895 NB895_872 NB883_895 NB895_883
   obtain ⟨Ao26, co26, eo26⟩ := Kd.R_slice HO892.out
   (first | subst eo26 | (injection eo26 with f1_ f2_ f3_; have f4_ := f1_.symm; have f5_ := f3_.symm; clear f1_ f2_ f3_; subst f4_; subst f5_))
   refine nmp ?_
   refine one_ (i := 6) (N := none) #[true, true, true, true, true, true, true] rfl rfl (by kernel_rfl) (by decide) (fun K hK => ?_)
   have hs25 : w24.cell? ⟨gb895, 0, none⟩ = some (.int .i64 0) := cz BK895 0
   have hfs25 := blk_frozen BK895.out 0
   have hns25_0 := NB871_895.out
   have hns25_1 := NB872_895.out
   have hns25_2 := NB883_895.out
   have hms25_0 := NB895_871.out
   have hms25_1 := NB895_872.out
   have hms25_2 := NB895_883.out
   have hs27 : w24.cell? ⟨gb895, 1, none⟩ = some (.slice none 0 0) := cz BK895 1
   have hfs27 := blk_frozen BK895.out 1
   have hns27_0 := NB871_895.out
   have hns27_1 := NB872_895.out
   have hns27_2 := NB883_895.out
   have hms27_0 := NB895_871.out
   have hms27_1 := NB895_872.out
   have hms27_2 := NB895_883.out
   refine skip_ (w1 := ?_) (by rfl) rfl ?_ ?_
   rotate_left
   ·go_simp
    rfl
   refine hK.out _ _ ⟨((cell_far (p := ⟨gb895, _, none⟩) NB883_895.out _).trans (((cell_far (p := ⟨gb895, _, none⟩) NB883_895.out _).trans (hHeld.1)))), ((cell_far (p := ⟨gb895, _, none⟩) NB883_895.out _).trans (((cell_far (p := ⟨gb895, _, none⟩) NB883_895.out _).trans (hHeld.2))))⟩ (fun hHeld => ?_)
   clear hK K
   refine done_ (by kernel_rfl) ?_
   try go_wp2_with (first | ((with_reducible refine gate_callee (f := 114) rfl ?_); refine gL 17 Try.func114 #[.pointer (some ⟨g876, 0, none⟩), .int .i64 2] ?_; (with_reducible refine (spec_l1Once.calls g876 t873 t893 t894 2 true t897 t898 w _ ?side1 ?side2 A6.out).mono ?_); (case side1 => repeat (first | (with_reducible first | exact HI876.out | apply IsS197.alloc | apply IsS197.drewN | apply IsS197.drew | apply IsS197.set_1 | apply IsS197.set_2 | refine IsS197.far ?_ NB876_871.out _ | refine IsS197.far ?_ NB876_872.out _ | refine IsS197.far ?_ NB876_883.out _ | refine IsS197.far ?_ NB876_895.out _) | exact HI876.out)); (case side2 => repeat (first | (with_reducible first | exact HB.out | apply below_alloc | apply pw_below_drewN | apply below_drew1 | refine below_set ?_ (IsS197.ge HI876.out) | refine below_set ?_ GE871.out | refine below_set ?_ GE872.out | refine below_set ?_ GE883.out | refine below_set ?_ GE895.out) | exact HB.out)); rintro e w28 ⟨rfl, hi, hb, hk⟩; refine ⟨_, rfl, ?_⟩; replace BK871 := Aside0.mk (KeepBut.blk hk (g' := gb871) (o := .cells #[.int .i64 0, .slice none 0 0] 70 (0, 0)) (bf BK871) NB871_876.out (by simp)); replace BK872 := Aside0.mk (KeepBut.blk hk (g' := gb872) (o := .cells #[.int .i64 0, .slice none 0 0] 70 (0, 0)) (bf BK872) NB872_876.out (by simp)); replace HO879 := Aside0.mk (Kd.R_mono (Kd.R_keep (IsS197.apart (show IsS197 w _ g876 t873 t893 t894 from IsS197.go HI876) (kr ((Kd.R_mono (Kd.R_far (p := ⟨gb895, 1, none⟩) (Kd.R_far (p := ⟨gb895, 0, none⟩) (Kd.R_types HO879.out BK895.out (by decide)) (fun _ hk => hk.2) (.int .i64 t889)) (fun _ hk => hk.2) (.slice Ao26 t890.length co26)) (fun _ h_ => h_.1)))) (by decide)) hk (fun _ h => h.2)) (fun _ h => h.1)); replace BK883 := Aside0.mk (KeepBut.blk hk (g' := gb883) (o := .cells #[.slice Ao14 t877.length co14, .int .i64 t880] 65 (0, 0)) (bf BK883) NB883_876.out (by simp)); replace HO892 := Aside0.mk (Kd.R_mono (Kd.R_keep (IsS197.apart (show IsS197 w _ g876 t873 t893 t894 from IsS197.go HI876) (kr ((Kd.R_mono (Kd.R_far (p := ⟨gb895, 1, none⟩) (Kd.R_far (p := ⟨gb895, 0, none⟩) (Kd.R_types HO892.out BK895.out (by decide)) (fun _ hk => hk.2) (.int .i64 t889)) (fun _ hk => hk.2) (.slice Ao26 t890.length co26)) (fun _ h_ => h_.1)))) (by decide)) hk (fun _ h => h.2)) (fun _ h => h.1)); replace BK895 := Aside0.mk (KeepBut.blk hk (g' := gb895) (o := .cells #[.int .i64 t889, .slice Ao26 t890.length co26] 70 (0, 0)) (by (with_reducible repeat (first | refine blk_drewN ?_ _ | refine blk_drew ?_ | refine blk_alloc ?_ _)); refine blk_put (cs := #[.int .i64 t889, .slice none 0 0]) ?_ 1 _ rfl; (with_reducible repeat (first | refine blk_drewN ?_ _ | refine blk_drew ?_ | refine blk_alloc ?_ _)); refine blk_put (cs := #[.int .i64 0, .slice none 0 0]) ?_ 0 _ rfl; (with_reducible repeat (first | refine blk_drewN ?_ _ | refine blk_drew ?_ | refine blk_alloc ?_ _)); exact BK895.out) NB895_876.out (by simp)); replace HB := Aside0.mk (hb); replace HI876 := Aside0.mk (hi); (try clear hb); (try clear hb2); (try clear hk); (try clear hi)))
   replace HO879 := rd_ HO879
   replace HO892 := rd_ HO892
   replace BK871 := bd BK871
   replace BK872 := bd BK872
   replace BK883 := bd BK883
   replace BK895 := bd BK895
   replace HI876 := Aside0.mk (IsS197.drew HI876.out)
   replace HB := Aside0.mk (below_drew1 HB.out)
   refine start_ (n := 10) (S := fun w' => w'.cell? ⟨gb895, 0, none⟩ = some (.int .i64 t889) ∧ w'.cell? ⟨gb895, 1, none⟩ = some (.slice Ao26 t890.length co26)) (ds := []) #[false, false, false, false, false, false, false, false, false, false] (by kernel_rfl) rfl rfl ⟨cz BK895 0, cz BK895 1⟩ (fun hHeld => ?_); refine with_tabW spec_DrawResSame.tab5 spec_DrawResSame.bits5 (fun HT_ HW_ => ?_)
   generalize w28.drew = w29 at HO879 HO892 BK871 BK872 BK883 BK895 HI876 HB hHeld ⊢
   refine pu 1 19 ?_
   refine pu 4 22 ?_
   refine ta 0 18 ?_
   refine ta 2 20 ?_
   refine ta 5 23 ?_
   refine one_ (i := 3) (N := some 21) #[true, true, true, true, true, true, false, false, false, false] rfl rfl (one_of HT_.out (by kernel_rfl)) (by decide) (fun K hK => ?_)
   refine Kd.R_lit_step (Kd.int .i64) _ 3 ?hg (N := 21) ?hd (xs := ([] : List Int)) (inner := []) (ok := fun _ => True) (okp := fun _ => True) ?hr ?hp (fun _ hk => hk) trivial (Below.refl _ _) (Nat.le_refl _) (by simp) ?_; (case hd => rfl); (case hg => rfl); (case hr => first | (go_simp; done) | (go_simp; rfl)); (case hp => exact (Reps.none _ _))
   intro v900 w30 ho31 hb hg_ hnew_
   clear hg_ hnew_
   (first | rw [← Ny899.out] at ho31 | (simp only [Int.reduceToNat] at ho31; rw [← Ny899.out] at ho31))
   have HO901 := Aside0.mk (Kd.R_lower (Kd.R_new' (Kd.R_new' ho31 (Kd.R_lt (kr HO879.out))) (Kd.R_lt (kr HO892.out))) (below_size (IsS197.tb HB)))
   replace HO879 := Aside0.mk (Kd.R_elder' (kr HO879.out) (Kd.R_base ho31) hb)
   replace HO892 := Aside0.mk (Kd.R_elder' (kr HO892.out) (Kd.R_base ho31) hb)
   replace BK871 := bb BK871 hb
   replace BK872 := bb BK872 hb
   replace HI876 := Aside0.mk (IsS197.below (IsS197.go HI876) hb)
   replace BK883 := bb BK883 hb
   replace BK895 := bb BK895 hb
   replace HB := Aside0.mk (below_step (IsS197.tb HB) hb)
   clear hb ho31
   refine hK.out _ _ ⟨cz BK895 0, cz BK895 1⟩ (fun hHeld => ?_)
   clear hK K
   refine nm 21 ?_
   refine one_ (i := 6) (N := some 24) #[true, true, true, true, true, true, true, false, false, false] rfl rfl (one_of HT_.out (by kernel_rfl)) (by decide) (fun K hK => ?_)
   refine Kd.R_append_rows_step (Kd.int .i64) (w0 := w) w.heap.size (by rfl) (.tmp 21) (.tmp 23) 22 3 (.int .i64 0) 8 rfl Try.underlying22 info3 rfl (by decide) (by omega) v900 y899 t890 _ _ _ (fun k_ => some k_ ≠ (.slice Ao14 t877.length co14 : Value).ownBlock ∧ some k_ ≠ (.slice Ao26 t890.length co26 : Value).ownBlock) (fun _ => False) rfl rfl ?aO ?aR (fun _ _ h => h) (fun _ h => h.elim) ?aF ?aB ?aS ?aL ?_
   (case aR => repeat (first | exact (Kd.R_reads' HO892.out).2.2 | (with_reducible refine Kd.C_alloc ?_ _) | (with_reducible refine Kd.C_drewN ?_ _) | (with_reducible refine Kd.C_drew ?_)))
   (case aB => exact (IsS197.tb HB))
   (case aF => exact (fun k_ hk => ⟨Kd.fresh' (Kd.R_lt (kr HO879.out)) k_ hk, Kd.fresh' (Kd.R_lt (kr HO892.out)) k_ hk⟩))
   (case aO => exact (kr (Kd.R_mono HO901.out (fun _ hk => ⟨hk.1.2, hk.2⟩))))
   (case aS => exact (below_size (IsS197.tb HB)))
   (case aL => have := LMc8.out; omega)
   intro v903 w32 ho hb hg hat
   rw [← Ny902.out] at ho
   replace BK871 := Aside0.mk (blk_grown (g := gb871) (o := .cells #[.int .i64 0, .slice none 0 0] 70 (0, 0)) (bk BK871) hg (Kd.R_ne HO901.out BK871.out (by decide)))
   replace BK872 := Aside0.mk (blk_grown (g := gb872) (o := .cells #[.int .i64 0, .slice none 0 0] 70 (0, 0)) (bk BK872) hg (Kd.R_ne HO901.out BK872.out (by decide)))
   replace HI876 := Aside0.mk (IsS197.grown (IsS197.go HI876) hg (IsS197.own_ne HI876.out HO901.out (by decide)))
   replace HO879 := Aside0.mk (Kd.R_after (ok := (fun k_ => some k_ ≠ (.slice Ao26 t890.length co26 : Value).ownBlock)) (kr HO879.out) hg hat)
   replace BK883 := Aside0.mk (blk_grown (g := gb883) (o := .cells #[.slice Ao14 t877.length co14, .int .i64 t880] 65 (0, 0)) (bk BK883) hg (Kd.R_ne HO901.out BK883.out (by decide)))
   replace HO892 := Aside0.mk (Kd.R_after (ok := (fun k_ => some k_ ≠ (.slice Ao14 t877.length co14 : Value).ownBlock)) (kr HO892.out) hg hat)
   replace BK895 := Aside0.mk (blk_grown (g := gb895) (o := .cells #[.int .i64 t889, .slice Ao26 t890.length co26] 70 (0, 0)) (bk BK895) hg (Kd.R_ne HO901.out BK895.out (by decide)))
   replace HB := Aside0.mk (hb)
   have HO904 := Aside0.mk (ho)
   clear HO901
   clear ho hb hg hat
   obtain ⟨Ao33, co33, eo33⟩ := Kd.R_slice HO904.out
   (first | subst eo33 | (injection eo33 with f1_ f2_ f3_; have f4_ := f1_.symm; have f5_ := f3_.symm; clear f1_ f2_ f3_; subst f4_; subst f5_))
   refine hK.out _ _ ⟨cz BK895 0, cz BK895 1⟩ (fun hHeld => ?_)
   clear hK K
   refine nm 24 ?_
   refine pu 7 25 ?_
   refine one_ (i := 8) (N := none) #[true, true, true, true, true, true, true, true, true, false] rfl rfl (one_of HT_.out (by kernel_rfl)) (by decide) (fun K hK => ?_)
   have hs34 : w32.cell? ⟨gb871, 0, none⟩ = some (.int .i64 0) := cz BK871 0
   have hfs34 := blk_frozen BK871.out 0
   have hns34_1 := NB872_871.out
   have hns34_2 := NB883_871.out
   have hns34_3 := NB895_871.out
   have hms34_1 := NB871_872.out
   have hms34_2 := NB871_883.out
   have hms34_3 := NB871_895.out
   have hs35 : w32.cell? ⟨gb871, 1, none⟩ = some (.slice none 0 0) := cz BK871 1
   have hfs35 := blk_frozen BK871.out 1
   have hns35_1 := NB872_871.out
   have hns35_2 := NB883_871.out
   have hns35_3 := NB895_871.out
   have hms35_1 := NB871_872.out
   have hms35_2 := NB871_883.out
   have hms35_3 := NB871_895.out
   refine skip_ (w1 := ?_) (by rfl) rfl ?_ ?_
   rotate_left
   ·go_simp
    rfl
   refine hK.out _ _ ⟨((cell_far (p := ⟨gb871, _, none⟩) NB895_871.out _).trans (((cell_far (p := ⟨gb871, _, none⟩) NB895_871.out _).trans (hHeld.1)))), ((cell_far (p := ⟨gb871, _, none⟩) NB895_871.out _).trans (((cell_far (p := ⟨gb871, _, none⟩) NB895_871.out _).trans (hHeld.2))))⟩ (fun hHeld => ?_)
   clear hK K
   refine one_ (i := 9) (N := none) #[true, true, true, true, true, true, true, true, true, true] rfl rfl (one_of HT_.out (by kernel_rfl)) (by decide) (fun K hK => ?_)
   have hs36 : w32.cell? ⟨gb872, 0, none⟩ = some (.int .i64 0) := cz BK872 0
   have hfs36 := blk_frozen BK872.out 0
   have hns36_0 := NB871_872.out
   have hns36_2 := NB883_872.out
   have hns36_3 := NB895_872.out
   have hms36_0 := NB872_871.out
   have hms36_2 := NB872_883.out
   have hms36_3 := NB872_895.out
   have hs37 : w32.cell? ⟨gb872, 1, none⟩ = some (.slice none 0 0) := cz BK872 1
   have hfs37 := blk_frozen BK872.out 1
   have hns37_0 := NB871_872.out
   have hns37_2 := NB883_872.out
   have hns37_3 := NB895_872.out
   have hms37_0 := NB872_871.out
   have hms37_2 := NB872_883.out
   have hms37_3 := NB872_895.out
   refine skip_ (w1 := ?_) (by rfl) rfl ?_ ?_
   rotate_left
   ·go_simp
    rfl
   refine hK.out _ _ ⟨((cell_far (p := ⟨gb872, _, none⟩) NB895_872.out _).trans (((cell_far (p := ⟨gb872, _, none⟩) NB895_872.out _).trans (hHeld.1)))), ((cell_far (p := ⟨gb872, _, none⟩) NB895_872.out _).trans (((cell_far (p := ⟨gb872, _, none⟩) NB895_872.out _).trans (hHeld.2))))⟩ (fun hHeld => ?_)
   clear hK K
   refine done_ (done_of HT_.out (by kernel_rfl)) ?_
   try go_wp2
   refine bodyPost_ret (results_cc rfl _ _ gb871 gb872 70 70 #[.int .i64 t889, .slice Ao26 t890.length co26] #[.int .i64 t889, .slice Ao33 y902.length co33] (0, 0) (0, 0) _ _ rfl (by (with_reducible repeat (first | refine blk_drewN ?_ _ | refine blk_drew ?_ | refine blk_alloc ?_ _)); refine blk_far ?_ NB871_872.out _; (with_reducible repeat (first | refine blk_drewN ?_ _ | refine blk_drew ?_ | refine blk_alloc ?_ _)); refine blk_far ?_ NB871_872.out _; (with_reducible repeat (first | refine blk_drewN ?_ _ | refine blk_drew ?_ | refine blk_alloc ?_ _)); refine blk_put (cs := #[.int .i64 t889, .slice none 0 0]) ?_ 1 _ rfl; (with_reducible repeat (first | refine blk_drewN ?_ _ | refine blk_drew ?_ | refine blk_alloc ?_ _)); refine blk_put (cs := #[.int .i64 0, .slice none 0 0]) ?_ 0 _ rfl; (with_reducible repeat (first | refine blk_drewN ?_ _ | refine blk_drew ?_ | refine blk_alloc ?_ _)); exact BK871.out) Try.underlying70 rfl (by kernel_rfl) rfl (by (with_reducible repeat (first | refine blk_drewN ?_ _ | refine blk_drew ?_ | refine blk_alloc ?_ _)); refine blk_put (cs := #[.int .i64 t889, .slice none 0 0]) ?_ 1 _ rfl; (with_reducible repeat (first | refine blk_drewN ?_ _ | refine blk_drew ?_ | refine blk_alloc ?_ _)); refine blk_put (cs := #[.int .i64 0, .slice none 0 0]) ?_ 0 _ rfl; (with_reducible repeat (first | refine blk_drewN ?_ _ | refine blk_drew ?_ | refine blk_alloc ?_ _)); refine blk_far ?_ NB872_871.out _; (with_reducible repeat (first | refine blk_drewN ?_ _ | refine blk_drew ?_ | refine blk_alloc ?_ _)); refine blk_far ?_ NB872_871.out _; (with_reducible repeat (first | refine blk_drewN ?_ _ | refine blk_drew ?_ | refine blk_alloc ?_ _)); exact BK872.out) Try.underlying70 rfl (by kernel_rfl)) rfl ?_
   exact ⟨_, _, er, by (with_reducible repeat (first | apply Kd.R_alloc | apply Kd.R_drewN | apply Kd.R_drew)); exact Kd.R_mono (Kd.R_far (p := ⟨gb872, 1, none⟩) (Kd.R_far (p := ⟨gb872, 0, none⟩) (Kd.R_far (p := ⟨gb871, 1, none⟩) (Kd.R_far (p := ⟨gb871, 0, none⟩) (Kd.R_types (Kd.R_types HO892.out BK871.out (by decide)) BK872.out (by decide)) (fun _ hk => hk.1.2) (.int .i64 t889)) (fun _ hk => hk.1.2) (.slice Ao26 t890.length co26)) (fun _ hk => hk.2) (.int .i64 t889)) (fun _ hk => hk.2) (.slice Ao33 y902.length co33)) (fun _ hk => hk.1.1.2), by (with_reducible repeat (first | apply Kd.R_alloc | apply Kd.R_drewN | apply Kd.R_drew)); exact Kd.R_mono (Kd.R_far (p := ⟨gb872, 1, none⟩) (Kd.R_far (p := ⟨gb872, 0, none⟩) (Kd.R_far (p := ⟨gb871, 1, none⟩) (Kd.R_far (p := ⟨gb871, 0, none⟩) (Kd.R_types (Kd.R_types HO904.out BK871.out (by decide)) BK872.out (by decide)) (fun _ hk => hk.1.2) (.int .i64 t889)) (fun _ hk => hk.1.2) (.slice Ao26 t890.length co26)) (fun _ hk => hk.2) (.int .i64 t889)) (fun _ hk => hk.2) (.slice Ao33 y902.length co33)) (fun _ hk => hk.1.1.2), IsS197.tb HB⟩
  ·rw [if_neg c8] at H
   exact absurd H (by simp)
 ·replace c7 := Bool.eq_false_iff.mpr c7
  subst c7
  have H1 : ((spec_l4DrawRight.f k t873 t897 t898).bind fun bt905 => ((spec_l4DrawRes.f k t873 bt905.2.2.2.1 bt905.2.2.2.2 t877 t880 bt905.1 bt905.2.1 bt905.2.2.1).bind fun bt910 => (some (t889, t890, bt910.1, bt910.2.1)))) = some (r1, r2, r3, r4) := by rw [if_neg (show ¬ (false = true) by decide)] at H; exact H
  clear H
  have H := H1
  clear H1
  replace H := Option.bind_eq_some_iff.mp H
  obtain ⟨⟨t905, t906, t907, t908, t909⟩, A380, H⟩ := H
  replace H : ((spec_l4DrawRes.f k t873 t908 t909 t877 t880 t905 t906 t907).bind fun bt910 => (some (t889, t890, bt910.1, bt910.2.1))) = some (r1, r2, r3, r4) := H
  have A38 := Aside0.mk A380
  clear A380
  replace H := Option.bind_eq_some_iff.mp H
  obtain ⟨⟨t910, t911, t914, t915⟩, A390, H⟩ := H
  replace H : (some (t889, t890, t910, t911)) = some (r1, r2, r3, r4) := H
  have A39 := Aside0.mk A390
  clear A390
  simp only [Option.some.injEq, Prod.mk.injEq] at H
  obtain ⟨rfl, rfl, rfl, rfl⟩ := H
  go_enter Try.func47, Try.ntmps47
  try go_wp2_with (first | ((with_reducible refine gate_dst (N := 2) rfl ?_); refine bx (N := 2) (cs := #[.int .i64 0, .slice none 0 0]) (t := 70) ?_; intro gb871 hg w40 hbox hb; have BK871 := Aside0.mk (hbox); have GW871 := Aside0.mk (ge_ hg HB); have GE871 := Aside0.mk (ge_ hg HB); replace HB := bs HB hb; clear hb hbox hg) | ((with_reducible refine gate_dst (N := 3) rfl ?_); refine bx (N := 3) (cs := #[.int .i64 0, .slice none 0 0]) (t := 70) ?_; intro gb872 hg w41 hbox hb; have BK872 := Aside0.mk (hbox); have GW872 := Aside0.mk (ge_ hg HB); have GE872 := Aside0.mk (ge_ hg HB); replace HB := bs HB hb; have NB871_872 := Aside0.mk (nl_ hg BK871); have NB872_871 := Aside0.mk (ng_ hg BK871); replace BK871 := bb BK871 hb; clear hb hbox hg) | ((with_reducible refine gate_callee (f := 105) rfl ?_); refine gL 8 Try.func105 #[.slice A0 l0.length c0] ?_; (with_reducible refine (spec_l1New.calls k _ _ l0 t873 t874 t875 w _ ?side1 ?side2 ?side3 A2.out).mono ?_); (case side1 => repeat (first | (with_reducible first | exact HB.out | apply below_alloc | apply pw_below_drewN | apply below_drew1 | refine below_set ?_ GE871.out | refine below_set ?_ GE872.out) | exact HB.out)); (case side2 => exact HR0.out); (case side3 => exact HC0.out); rintro e w42 ⟨g876, rfl, hi, hb, hb2⟩; refine ⟨_, rfl, ?_⟩; replace HB := Aside0.mk (hb); have HI876 := Aside0.mk (hi); have NB876_871 := Aside0.mk (IsS197.ne_blk hi (blk_below (bk BK871) hb2) (by decide)); have NB871_876 := Aside0.mk (Ne.symm (IsS197.ne_blk hi (blk_below (bk BK871) hb2) (by decide))); replace BK871 := Aside0.mk (blk_below (bk BK871) hb2); have NB876_872 := Aside0.mk (IsS197.ne_blk hi (blk_below (bk BK872) hb2) (by decide)); have NB872_876 := Aside0.mk (Ne.symm (IsS197.ne_blk hi (blk_below (bk BK872) hb2) (by decide))); replace BK872 := Aside0.mk (blk_below (bk BK872) hb2); (try clear hb); (try clear hb2); (try clear hk); (try clear hi)) | ((with_reducible refine gate_callee (f := 112) rfl ?_); refine gL 10 Try.func112 #[.pointer (some ⟨g876, 0, none⟩)] ?_; (with_reducible refine (spec_l3DrawRight.calls k g876 t873 t874 t875 t877 t880 t881 t882 w _ ?side1 ?side2 A3.out).mono ?_); (case side1 => repeat (first | (with_reducible first | exact HI876.out | apply IsS197.alloc | apply IsS197.drewN | apply IsS197.drew | apply IsS197.set_1 | apply IsS197.set_2 | refine IsS197.far ?_ NB876_871.out _ | refine IsS197.far ?_ NB876_872.out _) | exact HI876.out)); (case side2 => repeat (first | (with_reducible first | exact HB.out | apply below_alloc | apply pw_below_drewN | apply below_drew1 | refine below_set ?_ (IsS197.ge HI876.out) | refine below_set ?_ GE871.out | refine below_set ?_ GE872.out) | exact HB.out)); rintro e w43 ⟨v878, rfl, ho0, hi, hb, hk⟩; refine ⟨_, rfl, ?_⟩; replace BK871 := Aside0.mk (KeepBut.blk hk (g' := gb871) (o := .cells #[.int .i64 0, .slice none 0 0] 70 (0, 0)) (bk BK871) NB871_876.out (by simp)); replace BK872 := Aside0.mk (KeepBut.blk hk (g' := gb872) (o := .cells #[.int .i64 0, .slice none 0 0] 70 (0, 0)) (bk BK872) NB872_876.out (by simp)); have HO879 := Aside0.mk (Kd.R_lower ho0 (below_size (IsS197.tb HB))); replace HB := Aside0.mk (hb); replace HI876 := Aside0.mk (hi); (try clear hb); (try clear hb2); (try clear hk); (try clear hi); (try clear ho0)) | ((with_reducible refine gate_dst (N := 5) rfl ?_); refine bx (N := 5) (cs := #[.slice none 0 0, .int .i64 0]) (t := 65) ?_; intro gb883 hg w44 hbox hb; replace HO879 := rb HO879 hb; have BK883 := Aside0.mk (hbox); have GW883 := Aside0.mk ((by rw [hg]; exact (below_size (IsS197.tb HB)) : w.heap.size ≤ gb883)); have GE883 := Aside0.mk ((by rw [hg]; exact (below_size (IsS197.tb HB)) : w.heap.size ≤ gb883)); replace HB := Aside0.mk (below_step (IsS197.tb HB) hb); have NB871_883 := Aside0.mk (nl_ hg BK871); have NB883_871 := Aside0.mk (ng_ hg BK871); replace BK871 := bb BK871 hb; have NB872_883 := Aside0.mk (nl_ hg BK872); have NB883_872 := Aside0.mk (ng_ hg BK872); replace BK872 := bb BK872 hb; have NB876_883 := Aside0.mk ((by rw [hg]; exact Nat.ne_of_lt (IsS197.lt (show IsS197 w _ g876 t873 t881 t882 from IsS197.go HI876)) : g876 ≠ gb883)); have NB883_876 := Aside0.mk ((by rw [hg]; exact Nat.ne_of_gt (IsS197.lt (show IsS197 w _ g876 t873 t881 t882 from IsS197.go HI876)) : gb883 ≠ g876)); replace HI876 := Aside0.mk (IsS197.below (IsS197.go HI876) hb); clear hb hbox hg; obtain ⟨Ao45, co45, eo45⟩ := Kd.R_slice HO879.out; subst eo45; have hnb46 := NB883_871.out; have hnc46 := NB871_883.out; have hnb47 := NB883_872.out; have hnc47 := NB872_883.out; have hnb48 := NB883_876.out; have hnc48 := NB876_883.out; obtain ⟨hcz49_0, hcz49_1, hfz49_0, hfz49_1⟩ := c2 BK883))
  have n0_ : Aside0 (Kd.R (Kd.int .i64) 3 ((w44.setCell ⟨gb883, 0, none⟩ (.slice Ao45 t877.length co45)).setCell ⟨gb883, 1, none⟩ (.int .i64 t880)) w.heap.size (fun _ => True) (.slice Ao45 t877.length co45) t877) := ⟨by (with_reducible repeat (first | apply Kd.R_alloc | apply Kd.R_drewN | apply Kd.R_drew)); exact Kd.R_mono (Kd.R_far (p := ⟨gb883, 1, none⟩) (Kd.R_far (p := ⟨gb883, 0, none⟩) (Kd.R_types HO879.out BK883.out (by decide)) (fun _ hk => hk.2) (.slice Ao45 t877.length co45)) (fun _ hk => hk.2) (.int .i64 t880)) (fun _ hk => trivial)⟩
  have n1_ : Aside0 (((w44.setCell ⟨gb883, 0, none⟩ (.slice Ao45 t877.length co45)).setCell ⟨gb883, 1, none⟩ (.int .i64 t880)).heap[gb871]? = some (.cells #[.int .i64 0, .slice none 0 0] 70 (0, 0))) := ⟨bf BK871⟩
  have n2_ : Aside0 (((w44.setCell ⟨gb883, 0, none⟩ (.slice Ao45 t877.length co45)).setCell ⟨gb883, 1, none⟩ (.int .i64 t880)).heap[gb872]? = some (.cells #[.int .i64 0, .slice none 0 0] 70 (0, 0))) := ⟨bf BK872⟩
  have n3_ : Aside0 (((w44.setCell ⟨gb883, 0, none⟩ (.slice Ao45 t877.length co45)).setCell ⟨gb883, 1, none⟩ (.int .i64 t880)).heap[gb883]? = some (.cells #[.slice Ao45 t877.length co45, .int .i64 t880] 65 (0, 0))) := ⟨by (with_reducible repeat (first | refine blk_drewN ?_ _ | refine blk_drew ?_ | refine blk_alloc ?_ _)); refine blk_put (cs := #[.slice Ao45 t877.length co45, .int .i64 0]) ?_ 1 _ rfl; (with_reducible repeat (first | refine blk_drewN ?_ _ | refine blk_drew ?_ | refine blk_alloc ?_ _)); refine blk_put (cs := #[.slice none 0 0, .int .i64 0]) ?_ 0 _ rfl; (with_reducible repeat (first | refine blk_drewN ?_ _ | refine blk_drew ?_ | refine blk_alloc ?_ _)); exact BK883.out⟩
  have n4_ : Aside0 (IsS197 w ((w44.setCell ⟨gb883, 0, none⟩ (.slice Ao45 t877.length co45)).setCell ⟨gb883, 1, none⟩ (.int .i64 t880)) g876 t873 t881 t882) := ⟨IsS197.go HI876⟩
  have n5_ : Aside0 (Below w.heap.size w ((w44.setCell ⟨gb883, 0, none⟩ (.slice Ao45 t877.length co45)).setCell ⟨gb883, 1, none⟩ (.int .i64 t880))) := ⟨IsS197.tb HB⟩
  (try clear HO879)
  (try clear BK871)
  (try clear BK872)
  (try clear BK883)
  (try clear HI876)
  (try clear HB)
  generalize ((w44.setCell ⟨gb883, 0, none⟩ (.slice Ao45 t877.length co45)).setCell ⟨gb883, 1, none⟩ (.int .i64 t880)) = w50 at n0_ n1_ n2_ n3_ n4_ n5_ ⊢
  have HO879 := n0_
  have BK871 := n1_
  have BK872 := n2_
  have BK883 := n3_
  have HI876 := n4_
  have HB := n5_
  clear n0_ n1_ n2_ n3_ n4_ n5_
  replace HO879 := rd_ HO879
  replace BK871 := bd BK871
  replace BK872 := bd BK872
  replace BK883 := bd BK883
  replace HI876 := Aside0.mk (IsS197.drew HI876.out)
  replace HB := Aside0.mk (below_drew1 HB.out)
  refine start_ (n := 7) (S := fun w' => w'.cell? ⟨gb883, 0, none⟩ = some (.slice Ao45 t877.length co45) ∧ w'.cell? ⟨gb883, 1, none⟩ = some (.int .i64 t880)) (ds := []) #[false, false, false, false, false, false, false] (by kernel_rfl) rfl rfl ⟨cz BK883 0, cz BK883 1⟩ (fun hHeld => ?_)
  generalize w50.drew = w51 at HO879 BK871 BK872 BK883 HI876 HB hHeld ⊢
  refine pu 0 11 ?_
  refine pu 2 13 ?_
  refine ta 1 12 ?_
  refine join_ (σ := Value × Nat) 1 #[true, true, true, true, true, true, false] (fun s_ => [(14, .agg #[.int .i64 t884, .int .i64 t885, .int .i64 t886]), (15, .agg #[.int .i64 t889, s_.1]), (6, .pointer (some ⟨s_.2, 0, none⟩))]) (fun s_ w' => (w'.cell? ⟨gb883, 0, none⟩ = some (.slice Ao45 t877.length co45) ∧ w'.cell? ⟨gb883, 1, none⟩ = some (.int .i64 t880)) ∧ Aside0 (Kd.R (Kd.int .i64) 3 w' w.heap.size (fun k_ => some k_ ≠ (s_.1 : Value).ownBlock) (.slice Ao45 t877.length co45) t877) ∧ Aside0 (Kd.R (Kd.int .i64) 3 w' w.heap.size (fun k_ => some k_ ≠ (.slice Ao45 t877.length co45 : Value).ownBlock) s_.1 t890) ∧ Aside0 (w'.heap[gb871]? = some (.cells #[.int .i64 0, .slice none 0 0] 70 (0, 0))) ∧ Aside0 (w'.heap[gb872]? = some (.cells #[.int .i64 0, .slice none 0 0] 70 (0, 0))) ∧ Aside0 (w'.heap[gb883]? = some (.cells #[.slice Ao45 t877.length co45, .int .i64 t880] 65 (0, 0))) ∧ Aside0 (w'.heap[s_.2]? = some (.cells #[.int .i64 0, .slice none 0 0] 70 (0, 0))) ∧ Aside0 (w.heap.size ≤ s_.2) ∧ Aside0 (w.heap.size ≤ s_.2) ∧ Aside0 (g876 ≠ s_.2) ∧ Aside0 (s_.2 ≠ g876) ∧ Aside0 (gb871 ≠ s_.2) ∧ Aside0 (s_.2 ≠ gb871) ∧ Aside0 (gb872 ≠ s_.2) ∧ Aside0 (s_.2 ≠ gb872) ∧ Aside0 (gb883 ≠ s_.2) ∧ Aside0 (s_.2 ≠ gb883) ∧ Aside0 (IsS197 w w' g876 t873 t893 t894) ∧ Aside0 (Below w.heap.size w w')) ?_ ?_
  rotate_left
  ·intro hCont
   refine two_ (i := 3) (j := 5) (Ni := some 14) (Nj := some 6) #[true, true, true, true, false, false, false] #[true, true, true, false, false, true, false] rfl rfl rfl rfl (by kernel_rfl) (by decide) (by decide) (fun K hK => ?_) (fun K hK => ?_)
   ·skip
    refine gS Try.func113 #[.pointer (some ⟨g876, 0, none⟩)] ?_
    with_reducible refine (spec_l4DrawRight.calls k g876 t873 t881 t882 t884 t885 t886 t887 t888 w _ ?side1 ?side2 A4.out).mono ?_
    (case side1 => repeat (first | (with_reducible first | exact HI876.out | apply IsS197.alloc | apply IsS197.drewN | apply IsS197.drew | apply IsS197.set_1 | apply IsS197.set_2 | refine IsS197.far ?_ NB876_871.out _ | refine IsS197.far ?_ NB876_872.out _ | refine IsS197.far ?_ NB876_883.out _) | exact HI876.out))
    (case side2 => repeat (first | (with_reducible first | exact HB.out | apply below_alloc | apply pw_below_drewN | apply below_drew1 | refine below_set ?_ (IsS197.ge HI876.out) | refine below_set ?_ GE871.out | refine below_set ?_ GE872.out | refine below_set ?_ GE883.out) | exact HB.out))
    rintro e w52 ⟨rfl, hi, hb, hk⟩
    refine ⟨_, rfl, ?_⟩
    replace BK871 := Aside0.mk (KeepBut.blk hk (g' := gb871) (o := .cells #[.int .i64 0, .slice none 0 0] 70 (0, 0)) (bk BK871) NB871_876.out (by simp))
    replace BK872 := Aside0.mk (KeepBut.blk hk (g' := gb872) (o := .cells #[.int .i64 0, .slice none 0 0] 70 (0, 0)) (bk BK872) NB872_876.out (by simp))
    replace HO879 := Aside0.mk (Kd.R_mono (Kd.R_keep (IsS197.apart (show IsS197 w _ g876 t873 t881 t882 from IsS197.go HI876) (kr HO879.out) (by decide)) hk (fun _ h => h.2)) (fun _ h => h.1))
    replace BK883 := Aside0.mk (KeepBut.blk hk (g' := gb883) (o := .cells #[.slice Ao45 t877.length co45, .int .i64 t880] 65 (0, 0)) (bk BK883) NB883_876.out (by simp))
    replace HB := Aside0.mk (hb)
    replace HI876 := Aside0.mk (hi)
    (try clear hb)
    (try clear hb2)
    (try clear hk)
    (try clear hi)
    refine hK.out _ _ ⟨cz BK883 0, cz BK883 1⟩ (fun hHeld => ?_)
    clear hK K
    refine nm 14 ?_
    refine two_ (i := 4) (j := 5) (Ni := some 15) (Nj := some 6) #[true, true, true, true, true, false, false] #[true, true, true, true, false, true, false] rfl rfl rfl rfl (by kernel_rfl) (by decide) (by decide) (fun K hK => ?_) (fun K hK => ?_)
    ·skip
     refine gS Try.func108 #[.pointer (some ⟨g876, 0, none⟩), .agg #[.slice Ao45 t877.length co45, .int .i64 t880], .agg #[.int .i64 t884, .int .i64 t885, .int .i64 t886]] ?_
     with_reducible refine (spec_l4DrawRes.calls k g876 t873 t887 t888 _ _ t877 t880 t884 t885 t886 t889 t890 t893 t894 w _ ?side1 ?side2 ?side3 ?side4 ?side5 A5.out).mono ?_
     (case side1 => repeat (first | (with_reducible first | exact HI876.out | apply IsS197.alloc | apply IsS197.drewN | apply IsS197.drew | apply IsS197.set_1 | apply IsS197.set_2 | refine IsS197.far ?_ NB876_871.out _ | refine IsS197.far ?_ NB876_872.out _ | refine IsS197.far ?_ NB876_883.out _) | exact HI876.out))
     (case side2 => repeat (first | (with_reducible first | exact HB.out | apply below_alloc | apply pw_below_drewN | apply below_drew1 | refine below_set ?_ (IsS197.ge HI876.out) | refine below_set ?_ GE871.out | refine below_set ?_ GE872.out | refine below_set ?_ GE883.out) | exact HB.out))
     (case side3 => repeat (first | exact (Kd.R_reads' HO879.out).2.2 | (with_reducible refine Kd.C_alloc ?_ _) | (with_reducible refine Kd.C_drewN ?_ _) | (with_reducible refine Kd.C_drew ?_)))
     (case side4 => exact (Kd.R_reads' HO879.out).2.1)
     (case side5 => exact far_slice (IsS197.own_ne HI876.out HO879.out (by decide)))
     rintro e w53 ⟨v891, rfl, ho0, hi, hb, hk⟩
     refine ⟨_, rfl, ?_⟩
     replace BK871 := Aside0.mk (KeepBut.blk hk (g' := gb871) (o := .cells #[.int .i64 0, .slice none 0 0] 70 (0, 0)) (bk BK871) NB871_876.out (by simp))
     replace BK872 := Aside0.mk (KeepBut.blk hk (g' := gb872) (o := .cells #[.int .i64 0, .slice none 0 0] 70 (0, 0)) (bk BK872) NB872_876.out (by simp))
     replace BK883 := Aside0.mk (KeepBut.blk hk (g' := gb883) (o := .cells #[.slice Ao45 t877.length co45, .int .i64 t880] 65 (0, 0)) (bk BK883) NB883_876.out (by simp))
     have HO892 := Aside0.mk (Kd.R_lower (Kd.R_new' ho0 (Kd.R_lt (kr HO879.out))) (below_size (IsS197.tb HB)))
     replace HO879 := Aside0.mk (Kd.R_mono (Kd.R_told (Kd.R_oldK (IsS197.apart (show IsS197 w _ g876 t873 t887 t888 from IsS197.go HI876) (kr HO879.out) (by decide)) hk) (Kd.R_base ho0)) (fun _ h_ => h_.1))
     replace HB := Aside0.mk (hb)
     replace HI876 := Aside0.mk (hi)
     (try clear hb)
     (try clear hb2)
     (try clear hk)
     (try clear hi)
     (try clear ho0)
     refine hK.out _ _ ⟨cz BK883 0, cz BK883 1⟩ (fun hHeld => ?_)
     clear hK K
     refine nm 15 ?_
     refine one_ (i := 5) (N := some 6) #[true, true, true, true, true, true, false] rfl rfl (by kernel_rfl) (by decide) (fun K hK => ?_)
     refine bxs (N := 6) (cs := #[.int .i64 0, .slice none 0 0]) (t := 70) ?_
     intro gb895 hg w54 hbox hb
     replace HO879 := rb HO879 hb
     replace HO892 := rb HO892 hb
     have BK895 := Aside0.mk (hbox)
     have GW895 := Aside0.mk ((by rw [hg]; exact (below_size (IsS197.tb HB)) : w.heap.size ≤ gb895))
     have GE895 := Aside0.mk ((by rw [hg]; exact (below_size (IsS197.tb HB)) : w.heap.size ≤ gb895))
     replace HB := Aside0.mk (below_step (IsS197.tb HB) hb)
     have NB871_895 := Aside0.mk (nl_ hg BK871)
     have NB895_871 := Aside0.mk (ng_ hg BK871)
     replace BK871 := bb BK871 hb
     have NB872_895 := Aside0.mk (nl_ hg BK872)
     have NB895_872 := Aside0.mk (ng_ hg BK872)
     replace BK872 := bb BK872 hb
     have NB883_895 := Aside0.mk (nl_ hg BK883)
     have NB895_883 := Aside0.mk (ng_ hg BK883)
     replace BK883 := bb BK883 hb
     have NB876_895 := Aside0.mk ((by rw [hg]; exact Nat.ne_of_lt (IsS197.lt (show IsS197 w _ g876 t873 t893 t894 from IsS197.go HI876)) : g876 ≠ gb895))
     have NB895_876 := Aside0.mk ((by rw [hg]; exact Nat.ne_of_gt (IsS197.lt (show IsS197 w _ g876 t873 t893 t894 from IsS197.go HI876)) : gb895 ≠ g876))
     replace HI876 := Aside0.mk (IsS197.below (IsS197.go HI876) hb)
     clear hb hbox hg
     refine hK.out _ _ ⟨cz BK883 0, cz BK883 1⟩ (fun hHeld => ?_)
     clear hK K
     refine nm 6 ?_
     exact norm_ (by simp only [putAll, Act.put, sA, sB, sC]) (hCont (v891, gb895) _ ⟨hHeld, ⟨kr (Kd.R_mono HO879.out (fun _ hk => hk.2))⟩, ⟨kr (Kd.R_mono HO892.out (fun _ hk => hk.2))⟩, ⟨bk BK871⟩, ⟨bk BK872⟩, ⟨bk BK883⟩, ⟨bk BK895⟩, GW895, GE895, NB876_895, NB895_876, NB871_895, NB895_871, NB872_895, NB895_872, NB883_895, NB895_883, ⟨IsS197.go HI876⟩, ⟨IsS197.tb HB⟩⟩)
    ·skip
     refine bxs (N := 6) (cs := #[.int .i64 0, .slice none 0 0]) (t := 70) ?_
     intro gb895 hg w53 hbox hb
     replace HO879 := rb HO879 hb
     have BK895 := Aside0.mk (hbox)
     have GW895 := Aside0.mk ((by rw [hg]; exact (below_size (IsS197.tb HB)) : w.heap.size ≤ gb895))
     have GE895 := Aside0.mk ((by rw [hg]; exact (below_size (IsS197.tb HB)) : w.heap.size ≤ gb895))
     replace HB := Aside0.mk (below_step (IsS197.tb HB) hb)
     have NB871_895 := Aside0.mk (nl_ hg BK871)
     have NB895_871 := Aside0.mk (ng_ hg BK871)
     replace BK871 := bb BK871 hb
     have NB872_895 := Aside0.mk (nl_ hg BK872)
     have NB895_872 := Aside0.mk (ng_ hg BK872)
     replace BK872 := bb BK872 hb
     have NB883_895 := Aside0.mk (nl_ hg BK883)
     have NB895_883 := Aside0.mk (ng_ hg BK883)
     replace BK883 := bb BK883 hb
     have NB876_895 := Aside0.mk ((by rw [hg]; exact Nat.ne_of_lt (IsS197.lt (show IsS197 w _ g876 t873 t887 t888 from IsS197.go HI876)) : g876 ≠ gb895))
     have NB895_876 := Aside0.mk ((by rw [hg]; exact Nat.ne_of_gt (IsS197.lt (show IsS197 w _ g876 t873 t887 t888 from IsS197.go HI876)) : gb895 ≠ g876))
     replace HI876 := Aside0.mk (IsS197.below (IsS197.go HI876) hb)
     clear hb hbox hg
     refine hK.out _ _ ⟨cz BK883 0, cz BK883 1⟩ (fun hHeld => ?_)
     clear hK K
     refine nm 6 ?_
     refine one_ (i := 4) (N := some 15) #[true, true, true, true, true, true, false] rfl rfl (by kernel_rfl) (by decide) (fun K hK => ?_)
     refine gS Try.func108 #[.pointer (some ⟨g876, 0, none⟩), .agg #[.slice Ao45 t877.length co45, .int .i64 t880], .agg #[.int .i64 t884, .int .i64 t885, .int .i64 t886]] ?_
     with_reducible refine (spec_l4DrawRes.calls k g876 t873 t887 t888 _ _ t877 t880 t884 t885 t886 t889 t890 t893 t894 w _ ?side1 ?side2 ?side3 ?side4 ?side5 A5.out).mono ?_
     (case side1 => repeat (first | (with_reducible first | exact HI876.out | apply IsS197.alloc | apply IsS197.drewN | apply IsS197.drew | apply IsS197.set_1 | apply IsS197.set_2 | refine IsS197.far ?_ NB876_871.out _ | refine IsS197.far ?_ NB876_872.out _ | refine IsS197.far ?_ NB876_883.out _ | refine IsS197.far ?_ NB876_895.out _) | exact HI876.out))
     (case side2 => repeat (first | (with_reducible first | exact HB.out | apply below_alloc | apply pw_below_drewN | apply below_drew1 | refine below_set ?_ (IsS197.ge HI876.out) | refine below_set ?_ GE871.out | refine below_set ?_ GE872.out | refine below_set ?_ GE883.out | refine below_set ?_ GE895.out) | exact HB.out))
     (case side3 => repeat (first | exact (Kd.R_reads' HO879.out).2.2 | (with_reducible refine Kd.C_alloc ?_ _) | (with_reducible refine Kd.C_drewN ?_ _) | (with_reducible refine Kd.C_drew ?_)))
     (case side4 => exact (Kd.R_reads' HO879.out).2.1)
     (case side5 => exact far_slice (IsS197.own_ne HI876.out HO879.out (by decide)))
     rintro e w54 ⟨v891, rfl, ho0, hi, hb, hk⟩
     refine ⟨_, rfl, ?_⟩
     replace BK871 := Aside0.mk (KeepBut.blk hk (g' := gb871) (o := .cells #[.int .i64 0, .slice none 0 0] 70 (0, 0)) (bk BK871) NB871_876.out (by simp))
     replace BK872 := Aside0.mk (KeepBut.blk hk (g' := gb872) (o := .cells #[.int .i64 0, .slice none 0 0] 70 (0, 0)) (bk BK872) NB872_876.out (by simp))
     replace BK883 := Aside0.mk (KeepBut.blk hk (g' := gb883) (o := .cells #[.slice Ao45 t877.length co45, .int .i64 t880] 65 (0, 0)) (bk BK883) NB883_876.out (by simp))
     replace BK895 := Aside0.mk (KeepBut.blk hk (g' := gb895) (o := .cells #[.int .i64 0, .slice none 0 0] 70 (0, 0)) (bk BK895) NB895_876.out (by simp))
     have HO892 := Aside0.mk (Kd.R_lower (Kd.R_new' ho0 (Kd.R_lt (kr HO879.out))) (below_size (IsS197.tb HB)))
     replace HO879 := Aside0.mk (Kd.R_mono (Kd.R_told (Kd.R_oldK (IsS197.apart (show IsS197 w _ g876 t873 t887 t888 from IsS197.go HI876) (kr HO879.out) (by decide)) hk) (Kd.R_base ho0)) (fun _ h_ => h_.1))
     replace HB := Aside0.mk (hb)
     replace HI876 := Aside0.mk (hi)
     (try clear hb)
     (try clear hb2)
     (try clear hk)
     (try clear hi)
     (try clear ho0)
     refine hK.out _ _ ⟨cz BK883 0, cz BK883 1⟩ (fun hHeld => ?_)
     clear hK K
     refine nm 15 ?_
     exact norm_ (by simp only [putAll, Act.put, sA, sB, sC]) (hCont (v891, gb895) _ ⟨hHeld, ⟨kr (Kd.R_mono HO879.out (fun _ hk => hk.2))⟩, ⟨kr (Kd.R_mono HO892.out (fun _ hk => hk.2))⟩, ⟨bk BK871⟩, ⟨bk BK872⟩, ⟨bk BK883⟩, ⟨bk BK895⟩, GW895, GE895, NB876_895, NB895_876, NB871_895, NB895_871, NB872_895, NB895_872, NB883_895, NB895_883, ⟨IsS197.go HI876⟩, ⟨IsS197.tb HB⟩⟩)
   ·skip
    refine bxs (N := 6) (cs := #[.int .i64 0, .slice none 0 0]) (t := 70) ?_
    intro gb895 hg w52 hbox hb
    replace HO879 := rb HO879 hb
    have BK895 := Aside0.mk (hbox)
    have GW895 := Aside0.mk ((by rw [hg]; exact (below_size (IsS197.tb HB)) : w.heap.size ≤ gb895))
    have GE895 := Aside0.mk ((by rw [hg]; exact (below_size (IsS197.tb HB)) : w.heap.size ≤ gb895))
    replace HB := Aside0.mk (below_step (IsS197.tb HB) hb)
    have NB871_895 := Aside0.mk (nl_ hg BK871)
    have NB895_871 := Aside0.mk (ng_ hg BK871)
    replace BK871 := bb BK871 hb
    have NB872_895 := Aside0.mk (nl_ hg BK872)
    have NB895_872 := Aside0.mk (ng_ hg BK872)
    replace BK872 := bb BK872 hb
    have NB883_895 := Aside0.mk (nl_ hg BK883)
    have NB895_883 := Aside0.mk (ng_ hg BK883)
    replace BK883 := bb BK883 hb
    have NB876_895 := Aside0.mk ((by rw [hg]; exact Nat.ne_of_lt (IsS197.lt (show IsS197 w _ g876 t873 t881 t882 from IsS197.go HI876)) : g876 ≠ gb895))
    have NB895_876 := Aside0.mk ((by rw [hg]; exact Nat.ne_of_gt (IsS197.lt (show IsS197 w _ g876 t873 t881 t882 from IsS197.go HI876)) : gb895 ≠ g876))
    replace HI876 := Aside0.mk (IsS197.below (IsS197.go HI876) hb)
    clear hb hbox hg
    refine hK.out _ _ ⟨cz BK883 0, cz BK883 1⟩ (fun hHeld => ?_)
    clear hK K
    refine nm 6 ?_
    refine one_ (i := 3) (N := some 14) #[true, true, true, true, false, true, false] rfl rfl (by kernel_rfl) (by decide) (fun K hK => ?_)
    refine gS Try.func113 #[.pointer (some ⟨g876, 0, none⟩)] ?_
    with_reducible refine (spec_l4DrawRight.calls k g876 t873 t881 t882 t884 t885 t886 t887 t888 w _ ?side1 ?side2 A4.out).mono ?_
    (case side1 => repeat (first | (with_reducible first | exact HI876.out | apply IsS197.alloc | apply IsS197.drewN | apply IsS197.drew | apply IsS197.set_1 | apply IsS197.set_2 | refine IsS197.far ?_ NB876_871.out _ | refine IsS197.far ?_ NB876_872.out _ | refine IsS197.far ?_ NB876_883.out _ | refine IsS197.far ?_ NB876_895.out _) | exact HI876.out))
    (case side2 => repeat (first | (with_reducible first | exact HB.out | apply below_alloc | apply pw_below_drewN | apply below_drew1 | refine below_set ?_ (IsS197.ge HI876.out) | refine below_set ?_ GE871.out | refine below_set ?_ GE872.out | refine below_set ?_ GE883.out | refine below_set ?_ GE895.out) | exact HB.out))
    rintro e w53 ⟨rfl, hi, hb, hk⟩
    refine ⟨_, rfl, ?_⟩
    replace BK871 := Aside0.mk (KeepBut.blk hk (g' := gb871) (o := .cells #[.int .i64 0, .slice none 0 0] 70 (0, 0)) (bk BK871) NB871_876.out (by simp))
    replace BK872 := Aside0.mk (KeepBut.blk hk (g' := gb872) (o := .cells #[.int .i64 0, .slice none 0 0] 70 (0, 0)) (bk BK872) NB872_876.out (by simp))
    replace HO879 := Aside0.mk (Kd.R_mono (Kd.R_keep (IsS197.apart (show IsS197 w _ g876 t873 t881 t882 from IsS197.go HI876) (kr HO879.out) (by decide)) hk (fun _ h => h.2)) (fun _ h => h.1))
    replace BK883 := Aside0.mk (KeepBut.blk hk (g' := gb883) (o := .cells #[.slice Ao45 t877.length co45, .int .i64 t880] 65 (0, 0)) (bk BK883) NB883_876.out (by simp))
    replace BK895 := Aside0.mk (KeepBut.blk hk (g' := gb895) (o := .cells #[.int .i64 0, .slice none 0 0] 70 (0, 0)) (bk BK895) NB895_876.out (by simp))
    replace HB := Aside0.mk (hb)
    replace HI876 := Aside0.mk (hi)
    (try clear hb)
    (try clear hb2)
    (try clear hk)
    (try clear hi)
    refine hK.out _ _ ⟨cz BK883 0, cz BK883 1⟩ (fun hHeld => ?_)
    clear hK K
    refine nm 14 ?_
    refine one_ (i := 4) (N := some 15) #[true, true, true, true, true, true, false] rfl rfl (by kernel_rfl) (by decide) (fun K hK => ?_)
    refine gS Try.func108 #[.pointer (some ⟨g876, 0, none⟩), .agg #[.slice Ao45 t877.length co45, .int .i64 t880], .agg #[.int .i64 t884, .int .i64 t885, .int .i64 t886]] ?_
    with_reducible refine (spec_l4DrawRes.calls k g876 t873 t887 t888 _ _ t877 t880 t884 t885 t886 t889 t890 t893 t894 w _ ?side1 ?side2 ?side3 ?side4 ?side5 A5.out).mono ?_
    (case side1 => repeat (first | (with_reducible first | exact HI876.out | apply IsS197.alloc | apply IsS197.drewN | apply IsS197.drew | apply IsS197.set_1 | apply IsS197.set_2 | refine IsS197.far ?_ NB876_871.out _ | refine IsS197.far ?_ NB876_872.out _ | refine IsS197.far ?_ NB876_883.out _ | refine IsS197.far ?_ NB876_895.out _) | exact HI876.out))
    (case side2 => repeat (first | (with_reducible first | exact HB.out | apply below_alloc | apply pw_below_drewN | apply below_drew1 | refine below_set ?_ (IsS197.ge HI876.out) | refine below_set ?_ GE871.out | refine below_set ?_ GE872.out | refine below_set ?_ GE883.out | refine below_set ?_ GE895.out) | exact HB.out))
    (case side3 => repeat (first | exact (Kd.R_reads' HO879.out).2.2 | (with_reducible refine Kd.C_alloc ?_ _) | (with_reducible refine Kd.C_drewN ?_ _) | (with_reducible refine Kd.C_drew ?_)))
    (case side4 => exact (Kd.R_reads' HO879.out).2.1)
    (case side5 => exact far_slice (IsS197.own_ne HI876.out HO879.out (by decide)))
    rintro e w54 ⟨v891, rfl, ho0, hi, hb, hk⟩
    refine ⟨_, rfl, ?_⟩
    replace BK871 := Aside0.mk (KeepBut.blk hk (g' := gb871) (o := .cells #[.int .i64 0, .slice none 0 0] 70 (0, 0)) (bk BK871) NB871_876.out (by simp))
    replace BK872 := Aside0.mk (KeepBut.blk hk (g' := gb872) (o := .cells #[.int .i64 0, .slice none 0 0] 70 (0, 0)) (bk BK872) NB872_876.out (by simp))
    replace BK883 := Aside0.mk (KeepBut.blk hk (g' := gb883) (o := .cells #[.slice Ao45 t877.length co45, .int .i64 t880] 65 (0, 0)) (bk BK883) NB883_876.out (by simp))
    replace BK895 := Aside0.mk (KeepBut.blk hk (g' := gb895) (o := .cells #[.int .i64 0, .slice none 0 0] 70 (0, 0)) (bk BK895) NB895_876.out (by simp))
    have HO892 := Aside0.mk (Kd.R_lower (Kd.R_new' ho0 (Kd.R_lt (kr HO879.out))) (below_size (IsS197.tb HB)))
    replace HO879 := Aside0.mk (Kd.R_mono (Kd.R_told (Kd.R_oldK (IsS197.apart (show IsS197 w _ g876 t873 t887 t888 from IsS197.go HI876) (kr HO879.out) (by decide)) hk) (Kd.R_base ho0)) (fun _ h_ => h_.1))
    replace HB := Aside0.mk (hb)
    replace HI876 := Aside0.mk (hi)
    (try clear hb)
    (try clear hb2)
    (try clear hk)
    (try clear hi)
    (try clear ho0)
    refine hK.out _ _ ⟨cz BK883 0, cz BK883 1⟩ (fun hHeld => ?_)
    clear hK K
    refine nm 15 ?_
    exact norm_ (by simp only [putAll, Act.put, sA, sB, sC]) (hCont (v891, gb895) _ ⟨hHeld, ⟨kr (Kd.R_mono HO879.out (fun _ hk => hk.2))⟩, ⟨kr (Kd.R_mono HO892.out (fun _ hk => hk.2))⟩, ⟨bk BK871⟩, ⟨bk BK872⟩, ⟨bk BK883⟩, ⟨bk BK895⟩, GW895, GE895, NB876_895, NB895_876, NB871_895, NB895_871, NB872_895, NB895_872, NB883_895, NB895_883, ⟨IsS197.go HI876⟩, ⟨IsS197.tb HB⟩⟩)
  clear HO879 BK871 BK872 BK883 HI876 HB
  rintro ⟨v891, gb895⟩ w55 ⟨hHeld, HO879, HO892, BK871, BK872, BK883, BK895, GW895, GE895, NB876_895, NB895_876, NB871_895, NB895_871, NB872_895, NB895_872, NB883_895, NB895_883, HI876, HB⟩
  dsimp only at HO879 HO892 BK895 GW895 GE895 NB876_895 NB895_876 NB871_895 NB895_871 NB872_895 NB895_872 NB883_895 NB895_883
  obtain ⟨Ao57, co57, eo57⟩ := Kd.R_slice HO892.out
  (first | subst eo57 | (injection eo57 with f1_ f2_ f3_; have f4_ := f1_.symm; have f5_ := f3_.symm; clear f1_ f2_ f3_; subst f4_; subst f5_))
  refine nmp ?_
  refine one_ (i := 6) (N := none) #[true, true, true, true, true, true, true] rfl rfl (by kernel_rfl) (by decide) (fun K hK => ?_)
  have hs56 : w55.cell? ⟨gb895, 0, none⟩ = some (.int .i64 0) := cz BK895 0
  have hfs56 := blk_frozen BK895.out 0
  have hns56_0 := NB871_895.out
  have hns56_1 := NB872_895.out
  have hns56_2 := NB883_895.out
  have hms56_0 := NB895_871.out
  have hms56_1 := NB895_872.out
  have hms56_2 := NB895_883.out
  have hs58 : w55.cell? ⟨gb895, 1, none⟩ = some (.slice none 0 0) := cz BK895 1
  have hfs58 := blk_frozen BK895.out 1
  have hns58_0 := NB871_895.out
  have hns58_1 := NB872_895.out
  have hns58_2 := NB883_895.out
  have hms58_0 := NB895_871.out
  have hms58_1 := NB895_872.out
  have hms58_2 := NB895_883.out
  refine skip_ (w1 := ?_) (by rfl) rfl ?_ ?_
  rotate_left
  ·go_simp
   rfl
  refine hK.out _ _ ⟨((cell_far (p := ⟨gb895, _, none⟩) NB883_895.out _).trans (((cell_far (p := ⟨gb895, _, none⟩) NB883_895.out _).trans (hHeld.1)))), ((cell_far (p := ⟨gb895, _, none⟩) NB883_895.out _).trans (((cell_far (p := ⟨gb895, _, none⟩) NB883_895.out _).trans (hHeld.2))))⟩ (fun hHeld => ?_)
  clear hK K
  refine done_ (by kernel_rfl) ?_
  try go_wp2_with (first | ((with_reducible refine gate_callee (f := 114) rfl ?_); refine gL 17 Try.func114 #[.pointer (some ⟨g876, 0, none⟩), .int .i64 2] ?_; (with_reducible refine (spec_l1Once.calls g876 t873 t893 t894 2 false t897 t898 w _ ?side1 ?side2 A6.out).mono ?_); (case side1 => repeat (first | (with_reducible first | exact HI876.out | apply IsS197.alloc | apply IsS197.drewN | apply IsS197.drew | apply IsS197.set_1 | apply IsS197.set_2 | refine IsS197.far ?_ NB876_871.out _ | refine IsS197.far ?_ NB876_872.out _ | refine IsS197.far ?_ NB876_883.out _ | refine IsS197.far ?_ NB876_895.out _) | exact HI876.out)); (case side2 => repeat (first | (with_reducible first | exact HB.out | apply below_alloc | apply pw_below_drewN | apply below_drew1 | refine below_set ?_ (IsS197.ge HI876.out) | refine below_set ?_ GE871.out | refine below_set ?_ GE872.out | refine below_set ?_ GE883.out | refine below_set ?_ GE895.out) | exact HB.out)); rintro e w59 ⟨rfl, hi, hb, hk⟩; refine ⟨_, rfl, ?_⟩; replace BK871 := Aside0.mk (KeepBut.blk hk (g' := gb871) (o := .cells #[.int .i64 0, .slice none 0 0] 70 (0, 0)) (bf BK871) NB871_876.out (by simp)); replace BK872 := Aside0.mk (KeepBut.blk hk (g' := gb872) (o := .cells #[.int .i64 0, .slice none 0 0] 70 (0, 0)) (bf BK872) NB872_876.out (by simp)); replace HO879 := Aside0.mk (Kd.R_mono (Kd.R_keep (IsS197.apart (show IsS197 w _ g876 t873 t893 t894 from IsS197.go HI876) (kr ((Kd.R_mono (Kd.R_far (p := ⟨gb895, 1, none⟩) (Kd.R_far (p := ⟨gb895, 0, none⟩) (Kd.R_types HO879.out BK895.out (by decide)) (fun _ hk => hk.2) (.int .i64 t889)) (fun _ hk => hk.2) (.slice Ao57 t890.length co57)) (fun _ h_ => h_.1)))) (by decide)) hk (fun _ h => h.2)) (fun _ h => h.1)); replace BK883 := Aside0.mk (KeepBut.blk hk (g' := gb883) (o := .cells #[.slice Ao45 t877.length co45, .int .i64 t880] 65 (0, 0)) (bf BK883) NB883_876.out (by simp)); replace HO892 := Aside0.mk (Kd.R_mono (Kd.R_keep (IsS197.apart (show IsS197 w _ g876 t873 t893 t894 from IsS197.go HI876) (kr ((Kd.R_mono (Kd.R_far (p := ⟨gb895, 1, none⟩) (Kd.R_far (p := ⟨gb895, 0, none⟩) (Kd.R_types HO892.out BK895.out (by decide)) (fun _ hk => hk.2) (.int .i64 t889)) (fun _ hk => hk.2) (.slice Ao57 t890.length co57)) (fun _ h_ => h_.1)))) (by decide)) hk (fun _ h => h.2)) (fun _ h => h.1)); replace BK895 := Aside0.mk (KeepBut.blk hk (g' := gb895) (o := .cells #[.int .i64 t889, .slice Ao57 t890.length co57] 70 (0, 0)) (by (with_reducible repeat (first | refine blk_drewN ?_ _ | refine blk_drew ?_ | refine blk_alloc ?_ _)); refine blk_put (cs := #[.int .i64 t889, .slice none 0 0]) ?_ 1 _ rfl; (with_reducible repeat (first | refine blk_drewN ?_ _ | refine blk_drew ?_ | refine blk_alloc ?_ _)); refine blk_put (cs := #[.int .i64 0, .slice none 0 0]) ?_ 0 _ rfl; (with_reducible repeat (first | refine blk_drewN ?_ _ | refine blk_drew ?_ | refine blk_alloc ?_ _)); exact BK895.out) NB895_876.out (by simp)); replace HB := Aside0.mk (hb); replace HI876 := Aside0.mk (hi); (try clear hb); (try clear hb2); (try clear hk); (try clear hi)))
  replace HO879 := rd_ HO879
  replace HO892 := rd_ HO892
  replace BK871 := bd BK871
  replace BK872 := bd BK872
  replace BK883 := bd BK883
  replace BK895 := bd BK895
  replace HI876 := Aside0.mk (IsS197.drew HI876.out)
  replace HB := Aside0.mk (below_drew1 HB.out)
  refine start_ (n := 8) (S := fun w' => w'.cell? ⟨gb895, 0, none⟩ = some (.int .i64 t889) ∧ w'.cell? ⟨gb895, 1, none⟩ = some (.slice Ao57 t890.length co57) ∧ w'.cell? ⟨gb883, 0, none⟩ = some (.slice Ao45 t877.length co45) ∧ w'.cell? ⟨gb883, 1, none⟩ = some (.int .i64 t880)) (ds := []) #[false, false, false, false, false, false, false, false] (by kernel_rfl) rfl rfl ⟨cz BK895 0, cz BK895 1, cz BK883 0, cz BK883 1⟩ (fun hHeld => ?_); refine with_tabW spec_DrawResSame.tab6 spec_DrawResSame.bits6 (fun HT_ HW_ => ?_)
  generalize w59.drew = w60 at HO879 HO892 BK871 BK872 BK883 BK895 HI876 HB hHeld ⊢
  refine pu 1 27 ?_
  refine pu 3 29 ?_
  refine ta 0 26 ?_
  refine ta 2 28 ?_
  refine one_ (i := 4) (N := some 30) #[true, true, true, true, true, false, false, false] rfl rfl (one_of HT_.out (by kernel_rfl)) (by decide) (fun K hK => ?_)
  refine gS Try.func113 #[.pointer (some ⟨g876, 0, none⟩)] ?_
  with_reducible refine (spec_l4DrawRight.calls k g876 t873 t897 t898 t905 t906 t907 t908 t909 w _ ?side1 ?side2 A38.out).mono ?_
  (case side1 => repeat (first | (with_reducible first | exact HI876.out | apply IsS197.alloc | apply IsS197.drewN | apply IsS197.drew | apply IsS197.set_1 | apply IsS197.set_2 | refine IsS197.far ?_ NB876_871.out _ | refine IsS197.far ?_ NB876_872.out _ | refine IsS197.far ?_ NB876_883.out _ | refine IsS197.far ?_ NB876_895.out _) | exact HI876.out))
  (case side2 => repeat (first | (with_reducible first | exact HB.out | apply below_alloc | apply pw_below_drewN | apply below_drew1 | refine below_set ?_ (IsS197.ge HI876.out) | refine below_set ?_ GE871.out | refine below_set ?_ GE872.out | refine below_set ?_ GE883.out | refine below_set ?_ GE895.out) | exact HB.out))
  rintro e w61 ⟨rfl, hi, hb, hk⟩
  refine ⟨_, rfl, ?_⟩
  replace BK871 := Aside0.mk (KeepBut.blk hk (g' := gb871) (o := .cells #[.int .i64 0, .slice none 0 0] 70 (0, 0)) (bk BK871) NB871_876.out (by simp))
  replace BK872 := Aside0.mk (KeepBut.blk hk (g' := gb872) (o := .cells #[.int .i64 0, .slice none 0 0] 70 (0, 0)) (bk BK872) NB872_876.out (by simp))
  replace HO879 := Aside0.mk (Kd.R_mono (Kd.R_keep (IsS197.apart (show IsS197 w _ g876 t873 t897 t898 from IsS197.go HI876) (kr HO879.out) (by decide)) hk (fun _ h => h.2)) (fun _ h => h.1))
  replace BK883 := Aside0.mk (KeepBut.blk hk (g' := gb883) (o := .cells #[.slice Ao45 t877.length co45, .int .i64 t880] 65 (0, 0)) (bk BK883) NB883_876.out (by simp))
  replace HO892 := Aside0.mk (Kd.R_mono (Kd.R_keep (IsS197.apart (show IsS197 w _ g876 t873 t897 t898 from IsS197.go HI876) (kr HO892.out) (by decide)) hk (fun _ h => h.2)) (fun _ h => h.1))
  replace BK895 := Aside0.mk (KeepBut.blk hk (g' := gb895) (o := .cells #[.int .i64 t889, .slice Ao57 t890.length co57] 70 (0, 0)) (bk BK895) NB895_876.out (by simp))
  replace HB := Aside0.mk (hb)
  replace HI876 := Aside0.mk (hi)
  (try clear hb)
  (try clear hb2)
  (try clear hk)
  (try clear hi)
  refine hK.out _ _ ⟨cz BK895 0, cz BK895 1, cz BK883 0, cz BK883 1⟩ (fun hHeld => ?_)
  clear hK K
  refine nm 30 ?_
  refine one_ (i := 5) (N := some 31) #[true, true, true, true, true, true, false, false] rfl rfl (one_of HT_.out (by kernel_rfl)) (by decide) (fun K hK => ?_)
  refine gS Try.func108 #[.pointer (some ⟨g876, 0, none⟩), .agg #[.slice Ao45 t877.length co45, .int .i64 t880], .agg #[.int .i64 t905, .int .i64 t906, .int .i64 t907]] ?_
  with_reducible refine (spec_l4DrawRes.calls k g876 t873 t908 t909 _ _ t877 t880 t905 t906 t907 t910 t911 t914 t915 w _ ?side1 ?side2 ?side3 ?side4 ?side5 A39.out).mono ?_
  (case side1 => repeat (first | (with_reducible first | exact HI876.out | apply IsS197.alloc | apply IsS197.drewN | apply IsS197.drew | apply IsS197.set_1 | apply IsS197.set_2 | refine IsS197.far ?_ NB876_871.out _ | refine IsS197.far ?_ NB876_872.out _ | refine IsS197.far ?_ NB876_883.out _ | refine IsS197.far ?_ NB876_895.out _) | exact HI876.out))
  (case side2 => repeat (first | (with_reducible first | exact HB.out | apply below_alloc | apply pw_below_drewN | apply below_drew1 | refine below_set ?_ (IsS197.ge HI876.out) | refine below_set ?_ GE871.out | refine below_set ?_ GE872.out | refine below_set ?_ GE883.out | refine below_set ?_ GE895.out) | exact HB.out))
  (case side3 => repeat (first | exact (Kd.R_reads' HO879.out).2.2 | (with_reducible refine Kd.C_alloc ?_ _) | (with_reducible refine Kd.C_drewN ?_ _) | (with_reducible refine Kd.C_drew ?_)))
  (case side4 => exact (Kd.R_reads' HO879.out).2.1)
  (case side5 => exact far_slice (IsS197.own_ne HI876.out HO879.out (by decide)))
  rintro e w62 ⟨v912, rfl, ho0, hi, hb, hk⟩
  refine ⟨_, rfl, ?_⟩
  replace BK871 := Aside0.mk (KeepBut.blk hk (g' := gb871) (o := .cells #[.int .i64 0, .slice none 0 0] 70 (0, 0)) (bk BK871) NB871_876.out (by simp))
  replace BK872 := Aside0.mk (KeepBut.blk hk (g' := gb872) (o := .cells #[.int .i64 0, .slice none 0 0] 70 (0, 0)) (bk BK872) NB872_876.out (by simp))
  replace BK883 := Aside0.mk (KeepBut.blk hk (g' := gb883) (o := .cells #[.slice Ao45 t877.length co45, .int .i64 t880] 65 (0, 0)) (bk BK883) NB883_876.out (by simp))
  replace BK895 := Aside0.mk (KeepBut.blk hk (g' := gb895) (o := .cells #[.int .i64 t889, .slice Ao57 t890.length co57] 70 (0, 0)) (bk BK895) NB895_876.out (by simp))
  have HO913 := Aside0.mk (Kd.R_lower (Kd.R_new' (Kd.R_new' ho0 (Kd.R_lt (kr HO879.out))) (Kd.R_lt (kr HO892.out))) (below_size (IsS197.tb HB)))
  replace HO879 := Aside0.mk (Kd.R_mono (Kd.R_told (Kd.R_oldK (IsS197.apart (show IsS197 w _ g876 t873 t908 t909 from IsS197.go HI876) (kr HO879.out) (by decide)) hk) (Kd.R_base ho0)) (fun _ h_ => h_.1))
  replace HO892 := Aside0.mk (Kd.R_mono (Kd.R_told (Kd.R_oldK (IsS197.apart (show IsS197 w _ g876 t873 t908 t909 from IsS197.go HI876) (kr HO892.out) (by decide)) hk) (Kd.R_base ho0)) (fun _ h_ => h_.1))
  replace HB := Aside0.mk (hb)
  replace HI876 := Aside0.mk (hi)
  (try clear hb)
  (try clear hb2)
  (try clear hk)
  (try clear hi)
  (try clear ho0)
  obtain ⟨Ao66, co66, eo66⟩ := Kd.R_slice HO913.out
  (first | subst eo66 | (injection eo66 with f1_ f2_ f3_; have f4_ := f1_.symm; have f5_ := f3_.symm; clear f1_ f2_ f3_; subst f4_; subst f5_))
  refine hK.out _ _ ⟨cz BK895 0, cz BK895 1, cz BK883 0, cz BK883 1⟩ (fun hHeld => ?_)
  clear hK K
  refine nm 31 ?_
  refine one_ (i := 6) (N := none) #[true, true, true, true, true, true, true, false] rfl rfl (one_of HT_.out (by kernel_rfl)) (by decide) (fun K hK => ?_)
  have hs63 : w62.cell? ⟨gb871, 0, none⟩ = some (.int .i64 0) := cz BK871 0
  have hfs63 := blk_frozen BK871.out 0
  have hns63_1 := NB872_871.out
  have hns63_2 := NB883_871.out
  have hns63_3 := NB895_871.out
  have hms63_1 := NB871_872.out
  have hms63_2 := NB871_883.out
  have hms63_3 := NB871_895.out
  have hs64 : w62.cell? ⟨gb871, 1, none⟩ = some (.slice none 0 0) := cz BK871 1
  have hfs64 := blk_frozen BK871.out 1
  have hns64_1 := NB872_871.out
  have hns64_2 := NB883_871.out
  have hns64_3 := NB895_871.out
  have hms64_1 := NB871_872.out
  have hms64_2 := NB871_883.out
  have hms64_3 := NB871_895.out
  refine skip_ (w1 := ?_) (by rfl) rfl ?_ ?_
  rotate_left
  ·go_simp
   rfl
  refine hK.out _ _ ⟨((cell_far (p := ⟨gb871, _, none⟩) NB895_871.out _).trans (((cell_far (p := ⟨gb871, _, none⟩) NB895_871.out _).trans (hHeld.1)))), ((cell_far (p := ⟨gb871, _, none⟩) NB895_871.out _).trans (((cell_far (p := ⟨gb871, _, none⟩) NB895_871.out _).trans (hHeld.2.1)))), ((cell_far (p := ⟨gb871, _, none⟩) NB883_871.out _).trans (((cell_far (p := ⟨gb871, _, none⟩) NB883_871.out _).trans (hHeld.2.2.1)))), ((cell_far (p := ⟨gb871, _, none⟩) NB883_871.out _).trans (((cell_far (p := ⟨gb871, _, none⟩) NB883_871.out _).trans (hHeld.2.2.2))))⟩ (fun hHeld => ?_)
  clear hK K
  refine one_ (i := 7) (N := none) #[true, true, true, true, true, true, true, true] rfl rfl (one_of HT_.out (by kernel_rfl)) (by decide) (fun K hK => ?_)
  have hs65 : w62.cell? ⟨gb872, 0, none⟩ = some (.int .i64 0) := cz BK872 0
  have hfs65 := blk_frozen BK872.out 0
  have hns65_0 := NB871_872.out
  have hns65_2 := NB883_872.out
  have hns65_3 := NB895_872.out
  have hms65_0 := NB872_871.out
  have hms65_2 := NB872_883.out
  have hms65_3 := NB872_895.out
  have hs67 : w62.cell? ⟨gb872, 1, none⟩ = some (.slice none 0 0) := cz BK872 1
  have hfs67 := blk_frozen BK872.out 1
  have hns67_0 := NB871_872.out
  have hns67_2 := NB883_872.out
  have hns67_3 := NB895_872.out
  have hms67_0 := NB872_871.out
  have hms67_2 := NB872_883.out
  have hms67_3 := NB872_895.out
  refine skip_ (w1 := ?_) (by rfl) rfl ?_ ?_
  rotate_left
  ·go_simp
   rfl
  refine hK.out _ _ ⟨((cell_far (p := ⟨gb872, _, none⟩) NB895_872.out _).trans (((cell_far (p := ⟨gb872, _, none⟩) NB895_872.out _).trans (hHeld.1)))), ((cell_far (p := ⟨gb872, _, none⟩) NB895_872.out _).trans (((cell_far (p := ⟨gb872, _, none⟩) NB895_872.out _).trans (hHeld.2.1)))), ((cell_far (p := ⟨gb872, _, none⟩) NB883_872.out _).trans (((cell_far (p := ⟨gb872, _, none⟩) NB883_872.out _).trans (hHeld.2.2.1)))), ((cell_far (p := ⟨gb872, _, none⟩) NB883_872.out _).trans (((cell_far (p := ⟨gb872, _, none⟩) NB883_872.out _).trans (hHeld.2.2.2))))⟩ (fun hHeld => ?_)
  clear hK K
  refine done_ (done_of HT_.out (by kernel_rfl)) ?_
  try go_wp2
  refine bodyPost_ret (results_cc rfl _ _ gb871 gb872 70 70 #[.int .i64 t889, .slice Ao57 t890.length co57] #[.int .i64 t910, .slice Ao66 t911.length co66] (0, 0) (0, 0) _ _ rfl (by (with_reducible repeat (first | refine blk_drewN ?_ _ | refine blk_drew ?_ | refine blk_alloc ?_ _)); refine blk_far ?_ NB871_872.out _; (with_reducible repeat (first | refine blk_drewN ?_ _ | refine blk_drew ?_ | refine blk_alloc ?_ _)); refine blk_far ?_ NB871_872.out _; (with_reducible repeat (first | refine blk_drewN ?_ _ | refine blk_drew ?_ | refine blk_alloc ?_ _)); refine blk_put (cs := #[.int .i64 t889, .slice none 0 0]) ?_ 1 _ rfl; (with_reducible repeat (first | refine blk_drewN ?_ _ | refine blk_drew ?_ | refine blk_alloc ?_ _)); refine blk_put (cs := #[.int .i64 0, .slice none 0 0]) ?_ 0 _ rfl; (with_reducible repeat (first | refine blk_drewN ?_ _ | refine blk_drew ?_ | refine blk_alloc ?_ _)); exact BK871.out) Try.underlying70 rfl (by kernel_rfl) rfl (by (with_reducible repeat (first | refine blk_drewN ?_ _ | refine blk_drew ?_ | refine blk_alloc ?_ _)); refine blk_put (cs := #[.int .i64 t910, .slice none 0 0]) ?_ 1 _ rfl; (with_reducible repeat (first | refine blk_drewN ?_ _ | refine blk_drew ?_ | refine blk_alloc ?_ _)); refine blk_put (cs := #[.int .i64 0, .slice none 0 0]) ?_ 0 _ rfl; (with_reducible repeat (first | refine blk_drewN ?_ _ | refine blk_drew ?_ | refine blk_alloc ?_ _)); refine blk_far ?_ NB872_871.out _; (with_reducible repeat (first | refine blk_drewN ?_ _ | refine blk_drew ?_ | refine blk_alloc ?_ _)); refine blk_far ?_ NB872_871.out _; (with_reducible repeat (first | refine blk_drewN ?_ _ | refine blk_drew ?_ | refine blk_alloc ?_ _)); exact BK872.out) Try.underlying70 rfl (by kernel_rfl)) rfl ?_
  exact ⟨_, _, er, by (with_reducible repeat (first | apply Kd.R_alloc | apply Kd.R_drewN | apply Kd.R_drew)); exact Kd.R_mono (Kd.R_far (p := ⟨gb872, 1, none⟩) (Kd.R_far (p := ⟨gb872, 0, none⟩) (Kd.R_far (p := ⟨gb871, 1, none⟩) (Kd.R_far (p := ⟨gb871, 0, none⟩) (Kd.R_types (Kd.R_types HO892.out BK871.out (by decide)) BK872.out (by decide)) (fun _ hk => hk.1.2) (.int .i64 t889)) (fun _ hk => hk.1.2) (.slice Ao57 t890.length co57)) (fun _ hk => hk.2) (.int .i64 t910)) (fun _ hk => hk.2) (.slice Ao66 t911.length co66)) (fun _ hk => hk.1.1.2), by (with_reducible repeat (first | apply Kd.R_alloc | apply Kd.R_drewN | apply Kd.R_drew)); exact Kd.R_mono (Kd.R_far (p := ⟨gb872, 1, none⟩) (Kd.R_far (p := ⟨gb872, 0, none⟩) (Kd.R_far (p := ⟨gb871, 1, none⟩) (Kd.R_far (p := ⟨gb871, 0, none⟩) (Kd.R_types (Kd.R_types HO913.out BK871.out (by decide)) BK872.out (by decide)) (fun _ hk => hk.1.2) (.int .i64 t889)) (fun _ hk => hk.1.2) (.slice Ao57 t890.length co57)) (fun _ hk => hk.2) (.int .i64 t910)) (fun _ hk => hk.2) (.slice Ao66 t911.length co66)) (fun _ hk => hk.1.1.2), IsS197.tb HB⟩
def spec_DrawOpOk.f (k : Nat) (l0 : List Int) : Option (Int × Int × Int) := (spec_l1New.f k l0).bind fun bt917 => ((spec_l4Draw.f k bt917.1 bt917.2.1 bt917.2.2).bind fun bt921 => (some (bt921.1, bt921.2.1, bt921.2.2.1)))
theorem spec_DrawOpOk.mono : ∀ a0 k, LeO (spec_DrawOpOk.f k a0) (spec_DrawOpOk.f (k + 1) a0) := by
 intro a0 k
 unfold spec_DrawOpOk.f
 repeat' first
   | (with_reducible exact spec_l1New.mono _ _)
   | (with_reducible exact spec_l4Draw.mono _ _ _ _)
   | (with_reducible exact LeO.refl _)
   | (with_reducible exact LeO.none _)
   | (with_reducible refine LeO.ite ?_ ?_)
   | (with_reducible refine LeO.bind ?_ (fun _ => ?_))
   | exact spec_l1New.mono _ _
   | exact spec_l4Draw.mono _ _ _ _
   | exact LeO.none _
   | refine LeO.ite ?_ ?_
   | refine LeO.bind ?_ (fun _ => ?_)
set_option maxHeartbeats 8000000 in
set_option maxRecDepth 100000 in
theorem spec_DrawOpOk.calls (k : Nat) (A0 : Option Addr) (c0 : Nat) (l0 : List Int) (r1 : Int) (r2 : Int) (r3 : Int) (w : World) (hr0 : Kd.C (Kd.int .u8) w A0 l0.length l0) (hc0 : l0.length ≤ c0) (h : spec_DrawOpOk.f k l0 = some (r1, r2, r3)) :
  Calls Try.prog 48 #[.slice A0 l0.length c0] w fun e w' => e = .returned (.agg #[.int .i64 r1, .int .i64 r2, .int .i64 r3]) ∧ Below w.heap.size w w' := by
 have hu68 := Try.underlying68
 have HR0 := Aside0.mk hr0
 have HC0 := Aside0.mk hc0
 clear hr0 hc0
 have HB := Aside0.mk (Below.refl w.heap.size w)
 have H : ((spec_l1New.f k l0).bind fun bt917 => ((spec_l4Draw.f k bt917.1 bt917.2.1 bt917.2.2).bind fun bt921 => (some (bt921.1, bt921.2.1, bt921.2.2.1)))) = some (r1, r2, r3) := h
 clear h
 replace H := Option.bind_eq_some_iff.mp H
 obtain ⟨⟨t917, t918, t919⟩, A20, H⟩ := H
 replace H : ((spec_l4Draw.f k t917 t918 t919).bind fun bt921 => (some (bt921.1, bt921.2.1, bt921.2.2.1))) = some (r1, r2, r3) := H
 have A2 := Aside0.mk A20
 clear A20
 replace H := Option.bind_eq_some_iff.mp H
 obtain ⟨⟨t921, t922, t923, t924, t925⟩, A30, H⟩ := H
 replace H : (some (t921, t922, t923)) = some (r1, r2, r3) := H
 have A3 := Aside0.mk A30
 clear A30
 simp only [Option.some.injEq, Prod.mk.injEq] at H
 obtain ⟨rfl, rfl, rfl⟩ := H
 go_enter Try.func48, Try.ntmps48
 go_wp2_with (first | ((with_reducible refine gate_dst (N := 2) rfl ?_); refine bx (N := 2) (cs := #[.int .i64 0, .int .i64 0, .int .i64 0]) (t := 68) ?_; intro gb916 hg w4 hbox hb; have BK916 := Aside0.mk (hbox); have GW916 := Aside0.mk (ge_ hg HB); have GE916 := Aside0.mk (ge_ hg HB); replace HB := bs HB hb; clear hb hbox hg) | ((with_reducible refine gate_callee (f := 105) rfl ?_); refine gL 4 Try.func105 #[.slice A0 l0.length c0] ?_; (with_reducible refine (spec_l1New.calls k _ _ l0 t917 t918 t919 w _ ?side1 ?side2 ?side3 A2.out).mono ?_); (case side1 => repeat (first | (with_reducible first | exact HB.out | apply below_alloc | apply pw_below_drewN | apply below_drew1 | refine below_set ?_ GE916.out) | exact HB.out)); (case side2 => exact HR0.out); (case side3 => exact HC0.out); rintro e w5 ⟨g920, rfl, hi, hb, hb2⟩; refine ⟨_, rfl, ?_⟩; replace HB := Aside0.mk (hb); have HI920 := Aside0.mk (hi); have NB920_916 := Aside0.mk (IsS197.ne_blk hi (blk_below (bk BK916) hb2) (by decide)); have NB916_920 := Aside0.mk (Ne.symm (IsS197.ne_blk hi (blk_below (bk BK916) hb2) (by decide))); replace BK916 := Aside0.mk (blk_below (bk BK916) hb2); (try clear hb); (try clear hb2); (try clear hk); (try clear hi)) | ((with_reducible refine gate_callee (f := 107) rfl ?_); refine gL 5 Try.func107 #[.pointer (some ⟨g920, 0, none⟩)] ?_; (with_reducible refine (spec_l4Draw.calls k g920 t917 t918 t919 t921 t922 t923 t924 t925 w _ ?side1 ?side2 A3.out).mono ?_); (case side1 => repeat (first | (with_reducible first | exact HI920.out | apply IsS197.alloc | apply IsS197.drewN | apply IsS197.drew | apply IsS197.set_1 | apply IsS197.set_2 | refine IsS197.far ?_ NB920_916.out _) | exact HI920.out)); (case side2 => repeat (first | (with_reducible first | exact HB.out | apply below_alloc | apply pw_below_drewN | apply below_drew1 | refine below_set ?_ (IsS197.ge HI920.out) | refine below_set ?_ GE916.out) | exact HB.out)); rintro e w6 ⟨rfl, hi, hb, hk⟩; refine ⟨_, rfl, ?_⟩; replace BK916 := Aside0.mk (KeepBut.blk hk (g' := gb916) (o := .cells #[.int .i64 0, .int .i64 0, .int .i64 0] 68 (0, 0)) (bk BK916) NB916_920.out (by simp)); replace HB := Aside0.mk (hb); replace HI920 := Aside0.mk (hi); (try clear hb); (try clear hb2); (try clear hk); (try clear hi); have hnb7 := NB916_920.out; have hnc7 := NB920_916.out; obtain ⟨hcz8_0, hcz8_1, hcz8_2, hfz8_0, hfz8_1, hfz8_2⟩ := c3 BK916))
 refine bodyPost_ret (results_cell_row rfl _ _ gb916 68 #[.int .i64 t921, .int .i64 t922, .int .i64 t923] (0, 0) _ rfl (by (with_reducible repeat (first | refine blk_drewN ?_ _ | refine blk_drew ?_ | refine blk_alloc ?_ _)); refine blk_put (cs := #[.int .i64 t921, .int .i64 t922, .int .i64 0]) ?_ 2 _ rfl; (with_reducible repeat (first | refine blk_drewN ?_ _ | refine blk_drew ?_ | refine blk_alloc ?_ _)); refine blk_put (cs := #[.int .i64 t921, .int .i64 0, .int .i64 0]) ?_ 1 _ rfl; (with_reducible repeat (first | refine blk_drewN ?_ _ | refine blk_drew ?_ | refine blk_alloc ?_ _)); refine blk_put (cs := #[.int .i64 0, .int .i64 0, .int .i64 0]) ?_ 0 _ rfl; (with_reducible repeat (first | refine blk_drewN ?_ _ | refine blk_drew ?_ | refine blk_alloc ?_ _)); exact BK916.out) Try.underlying68 rfl (by kernel_rfl)) rfl ?_
 exact ⟨er, IsS197.tb HB⟩
def laws_sameInts.l0 : Nat → List Int → List Int → Int → Option (Bool)
 | 0, _, _, _ => none
 | k + 1, x0, x1, x5 => if x5 < (x0.length : Int) then (if 0 ≤ x5 then (if x5 < (x1.length : Int) then (if (rd x0 x5) = (rd x1 x5) then (laws_sameInts.l0 k x0 x1 (wrap64 (x5 + 1))) else (some false)) else (none)) else (none)) else (some true)
def laws_sameInts.f (k : Nat) (l0 : List Int) (l1 : List Int) : Option (Bool) := if (l0.length : Int) = (l1.length : Int) then (laws_sameInts.l0 k l0 l1 0) else (some false)
theorem laws_sameInts.mono_l : ∀ k, (∀ y0 y1 y2, LeO (laws_sameInts.l0 k y0 y1 y2) (laws_sameInts.l0 (k + 1) y0 y1 y2))
 | 0 => fun _ _ _ r h => by simp [laws_sameInts.l0] at h
 | k + 1 => by
  have ih0 := laws_sameInts.mono_l k
  ·intro y0 y1 y2
   unfold laws_sameInts.l0
   repeat' first
   | (with_reducible exact ih0 _ _ _)
   | (with_reducible exact LeO.refl _)
   | (with_reducible exact LeO.none _)
   | (with_reducible refine LeO.ite ?_ ?_)
   | (with_reducible refine LeO.bind ?_ (fun _ => ?_))
   | exact ih0 _ _ _
   | exact LeO.none _
   | refine LeO.ite ?_ ?_
   | refine LeO.bind ?_ (fun _ => ?_)
theorem laws_sameInts.mono : ∀ a0 a1 k, LeO (laws_sameInts.f k a0 a1) (laws_sameInts.f (k + 1) a0 a1) := by
 intro a0 a1 k
 have ih0 := laws_sameInts.mono_l k
 unfold laws_sameInts.f
 repeat' first
   | (with_reducible exact ih0 _ _ _)
   | (with_reducible exact LeO.refl _)
   | (with_reducible exact LeO.none _)
   | (with_reducible refine LeO.ite ?_ ?_)
   | (with_reducible refine LeO.bind ?_ (fun _ => ?_))
   | exact ih0 _ _ _
   | exact LeO.none _
   | refine LeO.ite ?_ ?_
   | refine LeO.bind ?_ (fun _ => ?_)
set_option maxHeartbeats 8000000 in
set_option maxRecDepth 100000 in
theorem laws_sameInts.calls (k : Nat) (A0 : Option Addr) (c0 : Nat) (l0 : List Int) (A1 : Option Addr) (c1 : Nat) (l1 : List Int) (r : Bool) (w : World) (hr0 : Kd.C (Kd.int .i64) w A0 l0.length l0) (hc0 : l0.length ≤ c0) (hr1 : Kd.C (Kd.int .i64) w A1 l1.length l1) (hc1 : l1.length ≤ c1) (h : laws_sameInts.f k l0 l1 = some r) :
  Calls Try.prog 50 #[.slice A0 l0.length c0, .slice A1 l1.length c1] w fun e w' => e = .returned (.bool r) ∧ Drawn0 w w' := by
 have HR0 := Aside0.mk hr0
 have HC0 := Aside0.mk hc0
 clear hr0 hc0
 have HR1 := Aside0.mk hr1
 have HC1 := Aside0.mk hc1
 clear hr1 hc1
 have H : (if (l0.length : Int) = (l1.length : Int) then (laws_sameInts.l0 k l0 l1 0) else (some false)) = some r := h
 clear h
 by_cases c3 : (l0.length : Int) = (l1.length : Int)
 ·rw [if_pos c3] at H
  have c3b0 : ((l0.length : Int) == (l1.length : Int)) = true := beq_iff_eq.mpr c3
  have c3b1 : ((l0.length : Int) != (l1.length : Int)) = false := bne_eq_false_iff_eq.mpr c3
  have c3b2 : (l0.length == l1.length) = true := by first | simpa using c3 | (simp at c3 ⊢; omega)
  clear c3
  have H' := Aside0.mk H
  clear H
  go_enter Try.func50, Try.ntmps50
  go_wp2
  repeat (go_quiet (fail); try go_wp2)
  go_loopg [5] k (fun kq v5 w' => ∃ (x5_1 : Int), v5 = .int .i64 x5_1 ∧ Aside0 (laws_sameInts.l0 kq l0 l1 x5_1 = some r) ∧ Aside0 (kq ≤ k) ∧ Drawn0 w w')
  case atStart => exact ⟨(0), (by first | rfl | (simp; done) | (simp [*]; done)), H', ⟨Nat.le_refl _⟩, by repeat (first | exact Drawn0.refl _ | apply Drawn0.step)⟩
  case round =>
   clear H'
   try clear c1
   try clear p2
   try clear c3
   try clear c3b0
   try clear c3b1
   try clear c3b2
   obtain ⟨x5_1, rfl, HA, HK1, ⟨m1, rfl⟩⟩ := hrel
   cases gk with
   | zero => exact absurd HA.out (by simp [laws_sameInts.l0])
   | succ k1 =>
    have H := HA.out
    clear HA
    simp only [laws_sameInts.l0] at H
    by_cases c4 : x5_1 < (l0.length : Int)
    ·rw [if_pos c4] at H
     have c4b0 := decide_eq_true c4
     clear c4
     by_cases c5 : 0 ≤ x5_1
     ·rw [if_pos c5] at H
      have c5b0 := decide_eq_true c5
      clear c5
      by_cases c6 : x5_1 < (l1.length : Int)
      ·rw [if_pos c6] at H
       have c6b0 := decide_eq_true c6
       clear c6
       by_cases c7 : (rd l0 x5_1) = (rd l1 x5_1)
       ·rw [if_pos c7] at H
        have c7b0 : ((rd l0 x5_1) == (rd l1 x5_1)) = true := beq_iff_eq.mpr c7
        have c7b1 : ((rd l0 x5_1) != (rd l1 x5_1)) = false := bne_eq_false_iff_eq.mpr c7
        clear c7
        have H' := Aside0.mk H
        clear H
        have p926 : 0 ≤ (x5_1 : Int) := od
        have q926 : x5_1 < (l0.length : Int) := od
        obtain ⟨ad926, e926, hx926_0⟩ := Kd.at_int HR0.out x5_1 p926 q926
        cases e926
        replace p926 := eq_true p926
        replace q926 := eq_true q926
        have p927 : 0 ≤ (x5_1 : Int) := od
        have q927 : x5_1 < (l1.length : Int) := od
        obtain ⟨ad927, e927, hx927_0⟩ := Kd.at_int HR1.out x5_1 p927 q927
        cases e927
        replace p927 := eq_true p927
        replace q927 := eq_true q927
        go_wp2
        repeat (go_quiet (fail); try go_wp2)
        go_roundg k1
        case measure => have := HK1.out; omega
        case rel => exact ⟨(wrap64 (x5_1 + 1)), (by first | rfl | (simp; done) | (simp [*]; done)), H', ⟨by have := HK1.out; omega⟩, by repeat (first | exact Drawn0.refl _ | apply Drawn0.step)⟩
       ·rw [if_neg c7] at H
        have c7b0 : ((rd l0 x5_1) == (rd l1 x5_1)) = false := beq_eq_false_iff_ne.mpr c7
        have c7b1 : ((rd l0 x5_1) != (rd l1 x5_1)) = true := bne_iff_ne.mpr c7
        obtain rfl := Option.some.inj H
        have p926 : 0 ≤ (x5_1 : Int) := od
        have q926 : x5_1 < (l0.length : Int) := od
        obtain ⟨ad926, e926, hx926_0⟩ := Kd.at_int HR0.out x5_1 p926 q926
        cases e926
        replace p926 := eq_true p926
        replace q926 := eq_true q926
        have p927 : 0 ≤ (x5_1 : Int) := od
        have q927 : x5_1 < (l1.length : Int) := od
        obtain ⟨ad927, e927, hx927_0⟩ := Kd.at_int HR1.out x5_1 p927 q927
        cases e927
        replace p927 := eq_true p927
        replace q927 := eq_true q927
        go_wp2
        repeat (go_quiet (fail); try go_wp2)
        go_ret
        exact ⟨by first | rfl | (simp; done) | (simp [*]; done), by repeat (first | exact Drawn0.refl _ | apply Drawn0.step)⟩
      ·rw [if_neg c6] at H
       exact absurd H (by simp)
     ·rw [if_neg c5] at H
      exact absurd H (by simp)
    ·rw [if_neg c4] at H
     have c4b0 := decide_eq_false c4
     clear c4
     obtain rfl := Option.some.inj H
     go_wp2
     repeat (go_quiet (fail); try go_wp2)
     go_ret
     exact ⟨by first | rfl | (simp; done) | (simp [*]; done), by repeat (first | exact Drawn0.refl _ | apply Drawn0.step)⟩
 ·rw [if_neg c3] at H
  have c3b0 : ((l0.length : Int) == (l1.length : Int)) = false := beq_eq_false_iff_ne.mpr c3
  have c3b1 : ((l0.length : Int) != (l1.length : Int)) = true := bne_iff_ne.mpr c3
  have c3b2 : (l0.length == l1.length) = false := by first | simpa using c3 | (simp at c3 ⊢; omega)
  obtain rfl := Option.some.inj H
  go_enter Try.func50, Try.ntmps50
  go_wp2
  repeat (go_quiet (fail); try go_wp2)
  go_ret
  exact ⟨by first | rfl | (simp; done) | (simp [*]; done), by repeat (first | exact Drawn0.refl _ | apply Drawn0.step)⟩
def impl_ResSame.f (k : Nat) (a0_0 : Int) (l0_1 : List Int) (a1_0 : Int) (l1_1 : List Int) : Option (Bool) := if a0_0 = a1_0 then ((slices_Equal_int_int.f k l0_1 l1_1).bind fun t930 => (some t930)) else (some false)
theorem impl_ResSame.mono : ∀ a0 a1 a2 a3 k, LeO (impl_ResSame.f k a0 a1 a2 a3) (impl_ResSame.f (k + 1) a0 a1 a2 a3) := by
 intro a0 a1 a2 a3 k
 unfold impl_ResSame.f
 repeat' first
   | (with_reducible exact slices_Equal_int_int.mono _ _ _)
   | (with_reducible exact LeO.refl _)
   | (with_reducible exact LeO.none _)
   | (with_reducible refine LeO.ite ?_ ?_)
   | (with_reducible refine LeO.bind ?_ (fun _ => ?_))
   | exact slices_Equal_int_int.mono _ _ _
   | exact LeO.none _
   | refine LeO.ite ?_ ?_
   | refine LeO.bind ?_ (fun _ => ?_)
set_option maxHeartbeats 8000000 in
set_option maxRecDepth 100000 in
theorem impl_ResSame.calls (k : Nat) (a0_0 : Int) (A0_1 : Option Addr) (c0_1 : Nat) (l0_1 : List Int) (a1_0 : Int) (A1_1 : Option Addr) (c1_1 : Nat) (l1_1 : List Int) (r : Bool) (w : World) (hr0_1 : Kd.C (Kd.int .i64) w A0_1 l0_1.length l0_1) (hc0_1 : l0_1.length ≤ c0_1) (hr1_1 : Kd.C (Kd.int .i64) w A1_1 l1_1.length l1_1) (hc1_1 : l1_1.length ≤ c1_1) (h : impl_ResSame.f k a0_0 l0_1 a1_0 l1_1 = some r) :
  Calls Try.prog 51 #[.agg #[.int .i64 a0_0, .slice A0_1 l0_1.length c0_1], .agg #[.int .i64 a1_0, .slice A1_1 l1_1.length c1_1]] w fun e w' => e = .returned (.bool r) ∧ Below w.heap.size w w' := by
 have hu70 := Try.underlying70
 have HR0_1 := Aside0.mk hr0_1
 have HC0_1 := Aside0.mk hc0_1
 clear hr0_1 hc0_1
 have HR1_1 := Aside0.mk hr1_1
 have HC1_1 := Aside0.mk hc1_1
 clear hr1_1 hc1_1
 have HB := Aside0.mk (Below.refl w.heap.size w)
 have H : (if a0_0 = a1_0 then ((slices_Equal_int_int.f k l0_1 l1_1).bind fun t930 => (some t930)) else (some false)) = some r := h
 clear h
 by_cases c3 : a0_0 = a1_0
 ·rw [if_pos c3] at H
  have c3b0 : (a0_0 == a1_0) = true := beq_iff_eq.mpr c3
  have c3b1 : (a0_0 != a1_0) = false := bne_eq_false_iff_eq.mpr c3
  clear c3
  replace H := Option.bind_eq_some_iff.mp H
  obtain ⟨t930, A40, H⟩ := H
  replace H : (some t930) = some r := H
  have A4 := Aside0.mk A40
  clear A40
  obtain rfl := Option.some.inj H
  go_enter Try.func51, Try.ntmps51
  go_wp2_with (first | ((with_reducible refine gate_dst (N := 2) rfl ?_); refine bx (N := 2) (cs := #[.int .i64 a0_0, .slice A0_1 l0_1.length c0_1]) (t := 70) ?_; intro gb928 hg w5 hbox hb; have BK928 := Aside0.mk (hbox); have GW928 := Aside0.mk (ge_ hg HB); have GE928 := Aside0.mk (ge_ hg HB); replace HB := bs HB hb; clear hb hbox hg) | ((with_reducible refine gate_dst (N := 3) rfl ?_); refine bx (N := 3) (cs := #[.int .i64 a1_0, .slice A1_1 l1_1.length c1_1]) (t := 70) ?_; intro gb929 hg w6 hbox hb; have BK929 := Aside0.mk (hbox); have GW929 := Aside0.mk (ge_ hg HB); have GE929 := Aside0.mk (ge_ hg HB); replace HB := bs HB hb; have NB928_929 := Aside0.mk (nl_ hg BK928); have NB929_928 := Aside0.mk (ng_ hg BK928); replace BK928 := bb BK928 hb; clear hb hbox hg; have hnb7 := NB928_929.out; have hnc7 := NB929_928.out; obtain ⟨hcz8_0, hcz8_1, hfz8_0, hfz8_1⟩ := c2 BK928; obtain ⟨hcz9_0, hcz9_1, hfz9_0, hfz9_1⟩ := c2 BK929) | (go_at_call 111; (with_reducible refine (slices_Equal_int_int.calls k _ _ l0_1 _ _ l1_1 t930 _ ?side1 ?side2 ?side3 ?side4 A4.out).mono ?_); (case side1 => exact kc HR0_1 HB); (case side2 => exact HC0_1.out); (case side3 => exact kc HR1_1 HB); (case side4 => exact HC1_1.out); rintro e w' ⟨rfl, ⟨nd, rfl⟩⟩))
  go_ret
  exact ⟨er, tb HB⟩
 ·rw [if_neg c3] at H
  have c3b0 : (a0_0 == a1_0) = false := beq_eq_false_iff_ne.mpr c3
  have c3b1 : (a0_0 != a1_0) = true := bne_iff_ne.mpr c3
  obtain rfl := Option.some.inj H
  go_enter Try.func51, Try.ntmps51
  go_wp2_with (first | ((with_reducible refine gate_dst (N := 2) rfl ?_); refine bx (N := 2) (cs := #[.int .i64 a0_0, .slice A0_1 l0_1.length c0_1]) (t := 70) ?_; intro gb928 hg w10 hbox hb; have BK928 := Aside0.mk (hbox); have GW928 := Aside0.mk (ge_ hg HB); have GE928 := Aside0.mk (ge_ hg HB); replace HB := bs HB hb; clear hb hbox hg) | ((with_reducible refine gate_dst (N := 3) rfl ?_); refine bx (N := 3) (cs := #[.int .i64 a1_0, .slice A1_1 l1_1.length c1_1]) (t := 70) ?_; intro gb929 hg w11 hbox hb; have BK929 := Aside0.mk (hbox); have GW929 := Aside0.mk (ge_ hg HB); have GE929 := Aside0.mk (ge_ hg HB); replace HB := bs HB hb; have NB928_929 := Aside0.mk (nl_ hg BK928); have NB929_928 := Aside0.mk (ng_ hg BK928); replace BK928 := bb BK928 hb; clear hb hbox hg; have hnb12 := NB928_929.out; have hnc12 := NB929_928.out; obtain ⟨hcz13_0, hcz13_1, hfz13_0, hfz13_1⟩ := c2 BK928; obtain ⟨hcz14_0, hcz14_1, hfz14_0, hfz14_1⟩ := c2 BK929))
  go_ret
  exact ⟨er, tb HB⟩
def spec_ResSame.f (k : Nat) (a0_0 : Int) (l0_1 : List Int) (a1_0 : Int) (l1_1 : List Int) : Option (Bool) := if a0_0 = a1_0 then ((spec_l4Ints.f k l0_1 l1_1).bind fun t933 => (some t933)) else (some false)
theorem spec_ResSame.mono : ∀ a0 a1 a2 a3 k, LeO (spec_ResSame.f k a0 a1 a2 a3) (spec_ResSame.f (k + 1) a0 a1 a2 a3) := by
 intro a0 a1 a2 a3 k
 unfold spec_ResSame.f
 repeat' first
   | (with_reducible exact spec_l4Ints.mono _ _ _)
   | (with_reducible exact LeO.refl _)
   | (with_reducible exact LeO.none _)
   | (with_reducible refine LeO.ite ?_ ?_)
   | (with_reducible refine LeO.bind ?_ (fun _ => ?_))
   | exact spec_l4Ints.mono _ _ _
   | exact LeO.none _
   | refine LeO.ite ?_ ?_
   | refine LeO.bind ?_ (fun _ => ?_)
set_option maxHeartbeats 8000000 in
set_option maxRecDepth 100000 in
theorem spec_ResSame.calls (k : Nat) (a0_0 : Int) (A0_1 : Option Addr) (c0_1 : Nat) (l0_1 : List Int) (a1_0 : Int) (A1_1 : Option Addr) (c1_1 : Nat) (l1_1 : List Int) (r : Bool) (w : World) (hr0_1 : Kd.C (Kd.int .i64) w A0_1 l0_1.length l0_1) (hc0_1 : l0_1.length ≤ c0_1) (hr1_1 : Kd.C (Kd.int .i64) w A1_1 l1_1.length l1_1) (hc1_1 : l1_1.length ≤ c1_1) (h : spec_ResSame.f k a0_0 l0_1 a1_0 l1_1 = some r) :
  Calls Try.prog 52 #[.agg #[.int .i64 a0_0, .slice A0_1 l0_1.length c0_1], .agg #[.int .i64 a1_0, .slice A1_1 l1_1.length c1_1]] w fun e w' => e = .returned (.bool r) ∧ Below w.heap.size w w' := by
 have hu70 := Try.underlying70
 have HR0_1 := Aside0.mk hr0_1
 have HC0_1 := Aside0.mk hc0_1
 clear hr0_1 hc0_1
 have HR1_1 := Aside0.mk hr1_1
 have HC1_1 := Aside0.mk hc1_1
 clear hr1_1 hc1_1
 have HB := Aside0.mk (Below.refl w.heap.size w)
 have H : (if a0_0 = a1_0 then ((spec_l4Ints.f k l0_1 l1_1).bind fun t933 => (some t933)) else (some false)) = some r := h
 clear h
 by_cases c3 : a0_0 = a1_0
 ·rw [if_pos c3] at H
  have c3b0 : (a0_0 == a1_0) = true := beq_iff_eq.mpr c3
  have c3b1 : (a0_0 != a1_0) = false := bne_eq_false_iff_eq.mpr c3
  clear c3
  replace H := Option.bind_eq_some_iff.mp H
  obtain ⟨t933, A40, H⟩ := H
  replace H : (some t933) = some r := H
  have A4 := Aside0.mk A40
  clear A40
  obtain rfl := Option.some.inj H
  go_enter Try.func52, Try.ntmps52
  go_wp2_with (first | ((with_reducible refine gate_dst (N := 2) rfl ?_); refine bx (N := 2) (cs := #[.int .i64 a0_0, .slice A0_1 l0_1.length c0_1]) (t := 70) ?_; intro gb931 hg w5 hbox hb; have BK931 := Aside0.mk (hbox); have GW931 := Aside0.mk (ge_ hg HB); have GE931 := Aside0.mk (ge_ hg HB); replace HB := bs HB hb; clear hb hbox hg) | ((with_reducible refine gate_dst (N := 3) rfl ?_); refine bx (N := 3) (cs := #[.int .i64 a1_0, .slice A1_1 l1_1.length c1_1]) (t := 70) ?_; intro gb932 hg w6 hbox hb; have BK932 := Aside0.mk (hbox); have GW932 := Aside0.mk (ge_ hg HB); have GE932 := Aside0.mk (ge_ hg HB); replace HB := bs HB hb; have NB931_932 := Aside0.mk (nl_ hg BK931); have NB932_931 := Aside0.mk (ng_ hg BK931); replace BK931 := bb BK931 hb; clear hb hbox hg; have hnb7 := NB931_932.out; have hnc7 := NB932_931.out; obtain ⟨hcz8_0, hcz8_1, hfz8_0, hfz8_1⟩ := c2 BK931; obtain ⟨hcz9_0, hcz9_1, hfz9_0, hfz9_1⟩ := c2 BK932) | (go_at_call 118; (with_reducible refine (spec_l4Ints.calls k _ _ l0_1 _ _ l1_1 t933 _ ?side1 ?side2 ?side3 ?side4 A4.out).mono ?_); (case side1 => exact kc HR0_1 HB); (case side2 => exact HC0_1.out); (case side3 => exact kc HR1_1 HB); (case side4 => exact HC1_1.out); rintro e w' ⟨rfl, ⟨nd, rfl⟩⟩))
  go_ret
  exact ⟨er, tb HB⟩
 ·rw [if_neg c3] at H
  have c3b0 : (a0_0 == a1_0) = false := beq_eq_false_iff_ne.mpr c3
  have c3b1 : (a0_0 != a1_0) = true := bne_iff_ne.mpr c3
  obtain rfl := Option.some.inj H
  go_enter Try.func52, Try.ntmps52
  go_wp2_with (first | ((with_reducible refine gate_dst (N := 2) rfl ?_); refine bx (N := 2) (cs := #[.int .i64 a0_0, .slice A0_1 l0_1.length c0_1]) (t := 70) ?_; intro gb931 hg w10 hbox hb; have BK931 := Aside0.mk (hbox); have GW931 := Aside0.mk (ge_ hg HB); have GE931 := Aside0.mk (ge_ hg HB); replace HB := bs HB hb; clear hb hbox hg) | ((with_reducible refine gate_dst (N := 3) rfl ?_); refine bx (N := 3) (cs := #[.int .i64 a1_0, .slice A1_1 l1_1.length c1_1]) (t := 70) ?_; intro gb932 hg w11 hbox hb; have BK932 := Aside0.mk (hbox); have GW932 := Aside0.mk (ge_ hg HB); have GE932 := Aside0.mk (ge_ hg HB); replace HB := bs HB hb; have NB931_932 := Aside0.mk (nl_ hg BK931); have NB932_931 := Aside0.mk (ng_ hg BK931); replace BK931 := bb BK931 hb; clear hb hbox hg; have hnb12 := NB931_932.out; have hnc12 := NB932_931.out; obtain ⟨hcz13_0, hcz13_1, hfz13_0, hfz13_1⟩ := c2 BK931; obtain ⟨hcz14_0, hcz14_1, hfz14_0, hfz14_1⟩ := c2 BK932))
  go_ret
  exact ⟨er, tb HB⟩
end Go.Proofs.Ytopikhjcbcpiaaa.Q
