/- Part 10 of the steps by which the law is shown: what each function of the program, of the reference and of the law computes. No condition. -/
import Derived.Test.YtopikhjcbcpiaaaMnw0
import Derived.Test.YtopikhjcbcpiaaaMnw2
import Derived.Test.YtopikhjcbcpiaaaMnw3
import Derived.Test.YtopikhjcbcpiaaaMnw5
import Derived.Test.YtopikhjcbcpiaaaMnw7
import Derived.Test.YtopikhjcbcpiaaaMnw8
import Derived.Test.YtopikhjcbcpiaaaMnw9
namespace Go.Proofs.Ytopikhjcbcpiaaa.Q
open Go.RowKit Go.Proofs.YtopikhjcbcpiaaaW.PrintWords Go.Proofs.YtopikhjcbcpiaaaW.PrintLast Go.Proofs.YtopikhjcbcpiaaaW.PrintMore
attribute [local go_sem] max2_int min2_int max_two min_two max_three min_three max_four min_four   -- for this text's walks alone
set_option linter.unusedVariables false
set_option linter.unusedSimpArgs false
mutual
def spec_WordsOf.l0 : Nat → List Int → Int → List Int → Int → Option (List Int)
  | 0, _, _, _, _ => none
  | k + 1, x3, x4, x1010000, x1010001 => if x4 < 4 then (if 0 ≤ x4 then (if x4 < (x1010000.length : Int) then ((spec_RowAt.f x4).bind fun t1018 => (if 0 ≤ t1018 then (if t1018 < (x3.length : Int) then ((some (x3.set (t1018 : Int).toNat (rd x1010000 x4) : List Int)).bind fun y1019 => (if (rd x1010000 x4) = 0 then (spec_WordsOf.l0 k y1019 (wrap64 (x4 + 1)) x1010000 x1010001) else ((spec_OwnerAt.f (rd x1010000 x4)).bind fun t1020 => (if 0 ≤ t1020 then (if t1020 < (x3.length : Int) then ((some (y1019.set (t1020 : Int).toNat (wrap64 (x4 + 1)) : List Int)).bind fun y1021 => (if x4 < (wrap64 (x1010001 - 1)) then ((spec_ViaAt.f (rd x1010000 x4)).bind fun t1022 => (if 0 ≤ t1022 then (if t1022 < (x3.length : Int) then (spec_WordsOf.l0 k (y1021.set (t1022 : Int).toNat (wrap64 (x4 + 1))) (wrap64 (x4 + 1)) x1010000 x1010001) else (none)) else (none))) else (spec_WordsOf.l0 k y1021 (wrap64 (x4 + 1)) x1010000 x1010001))) else (none)) else (none))))) else (none)) else (none))) else (none)) else (none)) else (spec_WordsOf.l1 k x3 0 x1010000 x1010001)
def spec_WordsOf.l1 : Nat → List Int → Int → List Int → Int → Option (List Int)
  | 0, _, _, _, _ => none
  | k + 1, x3, x6, x1010000, x1010001 => if x6 < 3 then ((spec_CountAt.f x6).bind fun t1024 => ((spec_HowMany.f k x1010000 x1010001 x6).bind fun t1025 => (if 0 ≤ t1024 then (if t1024 < (x3.length : Int) then (spec_WordsOf.l1 k (x3.set (t1024 : Int).toNat t1025) (wrap64 (x6 + 1)) x1010000 x1010001) else (none)) else (none)))) else ((spec_StateAt.f).bind fun t1027 => (if 0 ≤ t1027 then (if t1027 < (x3.length : Int) then (some (x3.set (t1027 : Int).toNat x1010001)) else (none)) else (none)))
end
def spec_WordsOf.f (k : Nat) (l0_0 : List Int) (a0_1 : Int) : Option (List Int) := (spec_RowsOk.f k l0_0 a0_1).bind fun t1010 => (if t1010 = true then (if 20 ≤ 35184372088832 then (spec_WordsOf.l0 k (List.replicate 20 0) 0 l0_0 a0_1) else (none)) else (some (([] : List Int))))
theorem spec_WordsOf.mono_l : ∀ k, (∀ y0 y1 y2 y3, LeO (spec_WordsOf.l0 k y0 y1 y2 y3) (spec_WordsOf.l0 (k + 1) y0 y1 y2 y3)) ∧ (∀ y0 y1 y2 y3, LeO (spec_WordsOf.l1 k y0 y1 y2 y3) (spec_WordsOf.l1 (k + 1) y0 y1 y2 y3))
  | 0 => ⟨fun _ _ _ _ r h => by simp [spec_WordsOf.l0] at h, fun _ _ _ _ r h => by simp [spec_WordsOf.l1] at h⟩
  | k + 1 => by
    obtain ⟨ih0, ih1⟩ := spec_WordsOf.mono_l k
    refine ⟨?_, ?_⟩
    · intro y0 y1 y2 y3
      unfold spec_WordsOf.l0
      repeat' first
      | (with_reducible exact ih0 _ _ _ _)
      | (with_reducible exact ih1 _ _ _ _)
      | (with_reducible exact spec_HowMany.mono _ _ _ _)
      | (with_reducible exact spec_RowsOk.mono _ _ _)
      | (with_reducible exact LeO.refl _)
      | (with_reducible exact LeO.none _)
      | (with_reducible refine LeO.ite ?_ ?_)
      | (with_reducible refine LeO.bind ?_ (fun _ => ?_))
      | exact ih0 _ _ _ _
      | exact ih1 _ _ _ _
      | exact spec_HowMany.mono _ _ _ _
      | exact spec_RowsOk.mono _ _ _
      | exact LeO.none _
      | refine LeO.ite ?_ ?_
      | refine LeO.bind ?_ (fun _ => ?_)
    · intro y0 y1 y2 y3
      unfold spec_WordsOf.l1
      repeat' first
      | (with_reducible exact ih0 _ _ _ _)
      | (with_reducible exact ih1 _ _ _ _)
      | (with_reducible exact spec_HowMany.mono _ _ _ _)
      | (with_reducible exact spec_RowsOk.mono _ _ _)
      | (with_reducible exact LeO.refl _)
      | (with_reducible exact LeO.none _)
      | (with_reducible refine LeO.ite ?_ ?_)
      | (with_reducible refine LeO.bind ?_ (fun _ => ?_))
      | exact ih0 _ _ _ _
      | exact ih1 _ _ _ _
      | exact spec_HowMany.mono _ _ _ _
      | exact spec_RowsOk.mono _ _ _
      | exact LeO.none _
      | refine LeO.ite ?_ ?_
      | refine LeO.bind ?_ (fun _ => ?_)
theorem spec_WordsOf.mono : ∀ a0 a1 k, LeO (spec_WordsOf.f k a0 a1) (spec_WordsOf.f (k + 1) a0 a1) := by
  intro a0 a1 k
  obtain ⟨ih0, ih1⟩ := spec_WordsOf.mono_l k
  unfold spec_WordsOf.f
  repeat' first
      | (with_reducible exact ih0 _ _ _ _)
      | (with_reducible exact ih1 _ _ _ _)
      | (with_reducible exact spec_HowMany.mono _ _ _ _)
      | (with_reducible exact spec_RowsOk.mono _ _ _)
      | (with_reducible exact LeO.refl _)
      | (with_reducible exact LeO.none _)
      | (with_reducible refine LeO.ite ?_ ?_)
      | (with_reducible refine LeO.bind ?_ (fun _ => ?_))
      | exact ih0 _ _ _ _
      | exact ih1 _ _ _ _
      | exact spec_HowMany.mono _ _ _ _
      | exact spec_RowsOk.mono _ _ _
      | exact LeO.none _
      | refine LeO.ite ?_ ?_
      | refine LeO.bind ?_ (fun _ => ?_)
def spec_WordsOf.T16 : Bool × List (List Nat × List Nat) := (true, [([], []), ([], []), ([1], [1]), ([], []), ([], []), ([3, 4, 2], [3, 4]), ([0, 2, 0, 1, 2, 3, 4, 5], [0, 2]), ([6, 5, 5, 0, 1, 2, 3, 4, 5], [5, 6])])
def spec_WordsOf.B16 : List Nat := [0, 0, 2, 0, 0, 30, 63, 127]
theorem spec_WordsOf.tab16 : rtab .any (opsOf Try.f127 16) = spec_WordsOf.T16 := by kernel_rfl
theorem spec_WordsOf.bits16 : waitsOk spec_WordsOf.T16.2 spec_WordsOf.B16 = true := by kernel_rfl
set_option maxHeartbeats 8000000 in
set_option maxRecDepth 100000 in
theorem spec_WordsOf.calls (k : Nat) (A0_0 : Option Addr) (c0_0 : Nat) (l0_0 : List Int) (a0_1 : Int) (r : List Int) (w : World) (hr0_0 : Kd.C (Kd.int .i64) w A0_0 l0_0.length l0_0) (hc0_0 : l0_0.length ≤ c0_0) (h : spec_WordsOf.f k l0_0 a0_1 = some r) :
    Calls Try.prog 127 #[.agg #[.slice A0_0 l0_0.length c0_0, .int .i64 a0_1]] w fun e w' => ∃ v0_ : Value, e = .returned (v0_) ∧ Kd.R (Kd.int .i64) 3 w' w.heap.size (fun _ => True) v0_ r ∧ Below w.heap.size w w' := by
  have hu65 := Try.underlying65
  have HR0_0 := Aside0.mk hr0_0
  have HC0_0 := Aside0.mk hc0_0
  clear hr0_0 hc0_0
  have HB := Aside0.mk (Below.refl w.heap.size w)
  have H : ((spec_RowsOk.f k l0_0 a0_1).bind fun t1010 => (if t1010 = true then (if 20 ≤ 35184372088832 then (spec_WordsOf.l0 k (List.replicate 20 0) 0 l0_0 a0_1) else (none)) else (some (([] : List Int))))) = some r := h
  clear h
  replace H := Option.bind_eq_some_iff.mp H
  obtain ⟨t1010, A20, H⟩ := H
  replace H : (if t1010 = true then (if 20 ≤ 35184372088832 then (spec_WordsOf.l0 k (List.replicate 20 0) 0 l0_0 a0_1) else (none)) else (some (([] : List Int)))) = some r := H
  have A2 := Aside0.mk A20
  clear A20
  by_cases c3 : t1010 = true
  · subst c3
    have H1 : (if 20 ≤ 35184372088832 then (spec_WordsOf.l0 k (List.replicate 20 0) 0 l0_0 a0_1) else (none)) = some r := by rw [if_pos rfl] at H; exact H
    clear H
    have H := H1
    clear H1
    by_cases c4 : 20 ≤ 35184372088832
    · rw [if_pos c4] at H
      have c4b0 := eq_true c4
      have c4b1 : decide (20 ≤ 35184372088832) = true := decide_eq_true c4
      clear c4
      obtain ⟨y1014, hy1014⟩ : ∃ y_ : List Int, y_ = (List.replicate 20 0) := ⟨_, rfl⟩
      replace H : (spec_WordsOf.l0 k y1014 0 l0_0 a0_1) = some r := by first | (rw [hy1014]; with_reducible exact H) | (have H2_ := (Option.bind_some _ _).symm.trans H; rw [hy1014]; with_reducible exact H2_) | (have H2_ := (Option.bind_some _ _).symm.trans H; with_reducible exact H2_) | with_reducible exact H | (rw [hy1014]; exact H) | exact H
      have Ny1014 := Aside0.mk hy1014
      clear hy1014
      have H' := Aside0.mk H
      clear H
      go_enter Try.func127, Try.ntmps127
      go_wp2_with (first | ((with_reducible refine gate_dst (N := 1) rfl ?_); refine box_event ?hg (N := 1) ?hd (cs := #[.slice A0_0 l0_0.length c0_0, .int .i64 a0_1]) (t := 65) ?hr ?_; (case hd => rfl); (case hg => rfl); (case hr => first | (go_simp; done) | (go_simp; rfl)); intro gb1009 hg w5 hbox hb; have n0_ := Aside0.mk (below_step (by repeat (first | (with_reducible first | exact HB.out | apply below_alloc | apply pw_below_drewN | apply below_drew1) | exact HB.out)) hb); have n1_ := Aside0.mk (hbox); have n2_ := Aside0.mk ((by rw [hg]; exact (below_size (by repeat (first | (with_reducible first | exact HB.out | apply below_alloc | apply pw_below_drewN | apply below_drew1) | exact HB.out))) : w.heap.size ≤ gb1009)); have n3_ := Aside0.mk ((by rw [hg]; exact (below_size (by repeat (first | (with_reducible first | exact HB.out | apply below_alloc | apply pw_below_drewN | apply below_drew1) | exact HB.out))) : w.heap.size ≤ gb1009)); clear HB; have HB := n0_; have BK1009 := n1_; have GW1009 := n2_; have GE1009 := n3_; clear n0_ n1_ n2_ n3_; clear hb hbox hg; have hcz6_0 : w5.cell? ⟨gb1009, 0, none⟩ = some (.slice A0_0 l0_0.length c0_0) := (blk_cell BK1009.out 0).trans rfl; have hcz6_1 : w5.cell? ⟨gb1009, 1, none⟩ = some (.int .i64 a0_1) := (blk_cell BK1009.out 1).trans rfl; have hfz6_0 := blk_frozen BK1009.out 0; have hfz6_1 := blk_frozen BK1009.out 1) | ((with_reducible refine gate_callee (f := 115) rfl ?_); refine goesL_ (some 8) rfl rfl Try.func115 (by kernel_rfl) rfl #[.agg #[.slice A0_0 l0_0.length c0_0, .int .i64 a0_1]] rfl (by (try simp only [List.map_toArray, List.map_cons, List.map_nil]); first | done | rfl | (simp only [List.length_drop, List.length_take]; rfl)) ?_; (with_reducible refine (spec_RowsOk.calls k _ _ l0_0 a0_1 true _ ?side1 ?side2 A2.out).mono ?_); (case side1 => repeat (first | exact (Kd.C_below HR0_0.out HB.out) | (with_reducible refine Kd.C_alloc ?_ _) | (with_reducible refine Kd.C_drewN ?_ _) | (with_reducible refine Kd.C_drew ?_))); (case side2 => exact HC0_0.out); rintro e w7 ⟨rfl, hb⟩; refine ⟨_, rfl, ?_⟩; have n0_ := Aside0.mk (blk_below (g := gb1009) (o := .cells #[.slice A0_0 l0_0.length c0_0, .int .i64 a0_1] 65 (0, 0)) (by (with_reducible repeat (first | refine blk_drewN ?_ _ | refine blk_drew ?_ | refine blk_alloc ?_ _)); exact BK1009.out) hb); have n1_ := Aside0.mk (below_step (by repeat (first | (with_reducible first | exact HB.out | apply below_alloc | apply pw_below_drewN | apply below_drew1 | refine below_set ?_ GE1009.out) | exact HB.out)) hb); clear BK1009; clear HB; have BK1009 := n0_; have HB := n1_; clear n0_ n1_; (try clear hb); (try clear hb2); (try clear hk); (try clear hi)) | ((with_reducible refine gate_dst (N := 11) rfl ?_); refine Kd.R_make (Kd.int .i64) _ 3 rfl (N := 11) rfl 22 _ _ rfl 20 rfl rfl Try.underlying22 (.int .i64 0) 8 info3 rfl (by decide) (by omega) 0 (ok := fun _ => True) (okp := fun _ => True) rfl (fun _ hk => hk) trivial (by omega) (by omega) (Below.refl _ _) (Nat.le_refl _) ?_; intro v1015 w8 ho9 hb hg_ hnew_; clear hg_ hnew_; (first | rw [← Ny1014.out] at ho9 | (simp only [Int.reduceToNat] at ho9; rw [← Ny1014.out] at ho9)); have n0_ := Aside0.mk (Kd.R_lower ho9 (below_size (by repeat (first | (with_reducible first | exact HB.out | apply below_alloc | apply pw_below_drewN | apply below_drew1 | refine below_set ?_ GE1009.out) | exact HB.out)))); have n1_ := Aside0.mk (blk_below (g := gb1009) (o := .cells #[.slice A0_0 l0_0.length c0_0, .int .i64 a0_1] 65 (0, 0)) (by (with_reducible repeat (first | refine blk_drewN ?_ _ | refine blk_drew ?_ | refine blk_alloc ?_ _)); exact BK1009.out) hb); have n2_ := Aside0.mk (below_step (by repeat (first | (with_reducible first | exact HB.out | apply below_alloc | apply pw_below_drewN | apply below_drew1 | refine below_set ?_ GE1009.out) | exact HB.out)) hb); clear BK1009; clear HB; have HO1016 := n0_; have BK1009 := n1_; have HB := n2_; clear n0_ n1_ n2_; clear hb ho9))
      go_loopg [4] k (fun kq v4 w' => ∃ (x3_1 : List Int) (x4_1 : Int), v4 = .int .i64 x4_1 ∧ Aside0 (spec_WordsOf.l0 kq x3_1 x4_1 l0_0 a0_1 = some r) ∧ Aside0 (kq ≤ k) ∧ Aside0 (Kd.R (Kd.int .i64) 3 w' w.heap.size (fun _ => True) v1015 x3_1) ∧ Aside0 (w'.heap[gb1009]? = some (.cells #[(.slice A0_0 l0_0.length c0_0), .int .i64 a0_1] 65 (0, 0))) ∧ Aside0 (Below w.heap.size w w'))
      case atStart => exact ⟨(y1014), (0), (by first | rfl | (simp; done) | (simp [*]; done)), H', ⟨Nat.le_refl _⟩, ⟨by (with_reducible repeat (first | apply Kd.R_alloc | apply Kd.R_drewN | apply Kd.R_drew)); exact HO1016.out⟩, ⟨by (with_reducible repeat (first | refine blk_drewN ?_ _ | refine blk_drew ?_ | refine blk_alloc ?_ _)); exact BK1009.out⟩, ⟨by repeat (first | (with_reducible first | exact HB.out | apply below_alloc | apply pw_below_drewN | apply below_drew1 | refine below_set ?_ GE1009.out) | exact HB.out)⟩⟩
      case round =>
        clear H'
        try clear c1
        try clear p2
        try clear c3
        try clear c4
        try clear c4b0
        try clear c4b1
        try clear hcz6_0
        try clear hcz6_1
        try clear hfz6_0
        try clear hfz6_1
        obtain ⟨x3_1, x4_1, rfl, HA, HK1, HO_3, BK1009, HB⟩ := hrel
        cases gk with
        | zero => exact absurd HA.out (by simp [spec_WordsOf.l0])
        | succ k1 =>
          have H := HA.out
          clear HA
          simp only [spec_WordsOf.l0] at H
          by_cases c10 : x4_1 < 4
          · rw [if_pos c10] at H
            have c10b0 : decide (x4_1 < 4) = true := decide_eq_true c10
            clear c10
            by_cases c11 : 0 ≤ x4_1
            · rw [if_pos c11] at H
              have c11b0 : decide (0 ≤ x4_1) = true := decide_eq_true c11
              clear c11
              by_cases c12 : x4_1 < (l0_0.length : Int)
              · rw [if_pos c12] at H
                have c12b0 : decide (x4_1 < (l0_0.length : Int)) = true := decide_eq_true c12
                clear c12
                replace H := Option.bind_eq_some_iff.mp H
                obtain ⟨t1018, A130, H⟩ := H
                replace H : (if 0 ≤ t1018 then (if t1018 < (x3_1.length : Int) then ((some (x3_1.set (t1018 : Int).toNat (rd l0_0 x4_1) : List Int)).bind fun y1019 => (if (rd l0_0 x4_1) = 0 then (spec_WordsOf.l0 k1 y1019 (wrap64 (x4_1 + 1)) l0_0 a0_1) else ((spec_OwnerAt.f (rd l0_0 x4_1)).bind fun t1020 => (if 0 ≤ t1020 then (if t1020 < (x3_1.length : Int) then ((some (y1019.set (t1020 : Int).toNat (wrap64 (x4_1 + 1)) : List Int)).bind fun y1021 => (if x4_1 < (wrap64 (a0_1 - 1)) then ((spec_ViaAt.f (rd l0_0 x4_1)).bind fun t1022 => (if 0 ≤ t1022 then (if t1022 < (x3_1.length : Int) then (spec_WordsOf.l0 k1 (y1021.set (t1022 : Int).toNat (wrap64 (x4_1 + 1))) (wrap64 (x4_1 + 1)) l0_0 a0_1) else (none)) else (none))) else (spec_WordsOf.l0 k1 y1021 (wrap64 (x4_1 + 1)) l0_0 a0_1))) else (none)) else (none))))) else (none)) else (none)) = some r := H
                have A13 := Aside0.mk A130
                clear A130
                by_cases c14 : 0 ≤ t1018
                · rw [if_pos c14] at H
                  have c14b0 : decide (0 ≤ t1018) = true := decide_eq_true c14
                  clear c14
                  by_cases c15 : t1018 < (x3_1.length : Int)
                  · rw [if_pos c15] at H
                    have c15b0 : decide (t1018 < (x3_1.length : Int)) = true := decide_eq_true c15
                    clear c15
                    obtain ⟨y1019, hy1019⟩ : ∃ y_ : List Int, y_ = (x3_1.set (t1018 : Int).toNat (rd l0_0 x4_1)) := ⟨_, rfl⟩
                    replace H : (if (rd l0_0 x4_1) = 0 then (spec_WordsOf.l0 k1 y1019 (wrap64 (x4_1 + 1)) l0_0 a0_1) else ((spec_OwnerAt.f (rd l0_0 x4_1)).bind fun t1020 => (if 0 ≤ t1020 then (if t1020 < (x3_1.length : Int) then ((some (y1019.set (t1020 : Int).toNat (wrap64 (x4_1 + 1)) : List Int)).bind fun y1021 => (if x4_1 < (wrap64 (a0_1 - 1)) then ((spec_ViaAt.f (rd l0_0 x4_1)).bind fun t1022 => (if 0 ≤ t1022 then (if t1022 < (x3_1.length : Int) then (spec_WordsOf.l0 k1 (y1021.set (t1022 : Int).toNat (wrap64 (x4_1 + 1))) (wrap64 (x4_1 + 1)) l0_0 a0_1) else (none)) else (none))) else (spec_WordsOf.l0 k1 y1021 (wrap64 (x4_1 + 1)) l0_0 a0_1))) else (none)) else (none)))) = some r := by first | (rw [hy1019]; with_reducible exact H) | (have H2_ := (Option.bind_some _ _).symm.trans H; rw [hy1019]; with_reducible exact H2_) | (have H2_ := (Option.bind_some _ _).symm.trans H; with_reducible exact H2_) | with_reducible exact H | (rw [hy1019]; exact H) | exact H
                    have Ny1019 := Aside0.mk hy1019
                    clear hy1019
                    by_cases c17 : (rd l0_0 x4_1) = 0
                    · rw [if_pos c17] at H
                      have c17b0 : ((rd l0_0 x4_1) == 0) = true := beq_iff_eq.mpr c17
                      have c17b1 : ((rd l0_0 x4_1) != 0) = false := bne_eq_false_iff_eq.mpr c17
                      clear c17
                      have H' := Aside0.mk H
                      clear H
                      have hcz18_0 : wr.cell? ⟨gb1009, 0, none⟩ = some (.slice A0_0 l0_0.length c0_0) := (blk_cell BK1009.out 0).trans rfl
                      have hcz18_1 : wr.cell? ⟨gb1009, 1, none⟩ = some (.int .i64 a0_1) := (blk_cell BK1009.out 1).trans rfl
                      have hfz18_0 := blk_frozen BK1009.out 0
                      have hfz18_1 := blk_frozen BK1009.out 1
                      have p1017 : 0 ≤ (x4_1 : Int) := of_decide_eq_true (by first | (with_reducible assumption) | assumption)
                      have q1017 : x4_1 < (l0_0.length : Int) := of_decide_eq_true (by first | (with_reducible assumption) | assumption)
                      obtain ⟨ad1017, e1017, hx1017_0⟩ := Kd.at_int HR0_0.out x4_1 p1017 q1017
                      cases e1017
                      replace hx1017_0 := (HB.out.cell (World.block_lt_of_cell? w _ hx1017_0)).trans hx1017_0
                      replace p1017 := eq_true p1017
                      replace q1017 := eq_true q1017
                      go_wp2_with (first | ((with_reducible refine gate_callee (f := 168) rfl ?_); refine goesL_ (some 23) rfl rfl Try.func168 (by kernel_rfl) rfl #[.int .i64 x4_1] rfl (by (try simp only [List.map_toArray, List.map_cons, List.map_nil]); first | done | rfl | (simp only [List.length_drop, List.length_take]; rfl)) ?_; (with_reducible refine (spec_RowAt.calls x4_1 t1018 _ A13.out).mono ?_); rintro e w' ⟨rfl, ⟨nd, rfl⟩⟩; refine ⟨_, rfl, ?_⟩; (try (rw [drewN_self wr]; generalize hq_ : World.drewN wr _ = wr; have n0_ : Aside0 (Kd.R (Kd.int .i64) 3 wr w.heap.size (fun _ => True) v1015 x3_1) := ⟨by rw [← hq_]; exact (by (with_reducible repeat (first | apply Kd.R_alloc | apply Kd.R_drewN | apply Kd.R_drew)); exact HO_3.out)⟩; have n1_ : Aside0 (wr.heap[gb1009]? = some (.cells #[.slice (some ad1017) l0_0.length c0_0, .int .i64 a0_1] 65 (0, 0))) := ⟨by rw [← hq_]; exact (by (with_reducible repeat (first | refine blk_drewN ?_ _ | refine blk_drew ?_ | refine blk_alloc ?_ _)); exact BK1009.out)⟩; have n2_ : Aside0 (Below w.heap.size w wr) := ⟨by rw [← hq_]; exact (by repeat (first | (with_reducible first | exact HB.out | apply below_alloc | apply pw_below_drewN | apply below_drew1 | refine below_set ?_ GE1009.out) | exact HB.out))⟩; clear HO_3 BK1009 HB hq_; have HO_3 := n0_; have BK1009 := n1_; have HB := n2_; clear n0_ n1_ n2_)); have p16 : 0 ≤ (t1018 : Int) := of_decide_eq_true (by first | (with_reducible assumption) | assumption); have q16 : (t1018 : Int) < ((x3_1.length : Int) : Int) := of_decide_eq_true (by first | (with_reducible assumption) | assumption); obtain ⟨go16, co16, eo16, gb16, gl16, cl16, HG16⟩ := Kd.R_form HO_3.out (by omega); (first | cases eo16 | (injection eo16 with ea_ en_ ec_; (first | subst ea_ | (injection ea_ with ea_; subst ea_)); subst ec_; clear en_)); have GB16 := Aside0.mk gb16; have GG16 := Aside0.mk HG16; clear gb16 gl16 HG16; obtain ⟨hx16_0, hf16_0⟩ := Kd.R_celln 0 HO_3.out (t1018 : Int) p16 q16; replace p16 := eq_true p16; replace q16 := eq_true q16; obtain ⟨hy19_, hz19_⟩ := Kd.R_celln 0 HO_3.out (t1018 : Int) (of_decide_eq_true (by first | (with_reducible assumption) | assumption)) (of_decide_eq_true (by first | (with_reducible assumption) | assumption)); have HP19 := Kd.R_putg HO_3.out (t1018 : Int) (rd l0_0 x4_1)) | ((with_reducible refine gate_store (t := 3) (p := 25) rfl ?_); refine store_event (t := 3) (p := 25) (v := ?vo_w20) (w1 := (wr.setCell ⟨go16, (t1018 : Int).toNat, none⟩ (.int .i64 (rd l0_0 x4_1)))) ?hg ?ho ?hn ?hr ?_; (case ho => rfl); (case hg => rfl); (case hn => rfl); (case hr => first | (go_simp; done) | (go_simp; rfl)); intro w20 hw; have hg : wr.grownBy w20 (some go16) := (by rw [hw]; exact HP19.2); have hp_ : Kd.R (Kd.int .i64) 3 w20 w.heap.size (fun _ => True) (.slice (some ⟨go16, 0, none⟩) x3_1.length co16) y1019 := (by rw [hw, Ny1019.out]; exact HP19.1); clear HP19; have n0_ := Aside0.mk (hp_); have n1_ := Aside0.mk (blk_grown (g := gb1009) (o := .cells #[.slice (some ad1017) l0_0.length c0_0, .int .i64 a0_1] 65 (0, 0)) (by (with_reducible repeat (first | refine blk_drewN ?_ _ | refine blk_drew ?_ | refine blk_alloc ?_ _)); exact BK1009.out) hg (Kd.R_ne HO_3.out BK1009.out (by decide))); have n2_ := Aside0.mk ((by rw [hw]; exact below_set (HB.out) GB16.out : Below w.heap.size w w20)); clear HO_3; clear BK1009; clear HB; have HO_3 := n0_; have BK1009 := n1_; have HB := n2_; clear n0_ n1_ n2_; clear hg hw hp_))
                      go_roundg k1
                      case measure => have := HK1.out; omega
                      case rel => exact ⟨(y1019), (wrap64 (x4_1 + 1)), (by first | rfl | (simp; done) | (simp [*]; done)), H', ⟨by have := HK1.out; omega⟩, ⟨by (with_reducible repeat (first | apply Kd.R_alloc | apply Kd.R_drewN | apply Kd.R_drew)); exact HO_3.out⟩, ⟨by (with_reducible repeat (first | refine blk_drewN ?_ _ | refine blk_drew ?_ | refine blk_alloc ?_ _)); exact BK1009.out⟩, ⟨by repeat (first | (with_reducible first | exact HB.out | apply below_alloc | apply pw_below_drewN | apply below_drew1 | refine below_set ?_ GE1009.out) | exact HB.out)⟩⟩
                    · rw [if_neg c17] at H
                      have c17b0 : ((rd l0_0 x4_1) == 0) = false := beq_eq_false_iff_ne.mpr c17
                      have c17b1 : ((rd l0_0 x4_1) != 0) = true := bne_iff_ne.mpr c17
                      replace H := Option.bind_eq_some_iff.mp H
                      obtain ⟨t1020, A210, H⟩ := H
                      replace H : (if 0 ≤ t1020 then (if t1020 < (x3_1.length : Int) then ((some (y1019.set (t1020 : Int).toNat (wrap64 (x4_1 + 1)) : List Int)).bind fun y1021 => (if x4_1 < (wrap64 (a0_1 - 1)) then ((spec_ViaAt.f (rd l0_0 x4_1)).bind fun t1022 => (if 0 ≤ t1022 then (if t1022 < (x3_1.length : Int) then (spec_WordsOf.l0 k1 (y1021.set (t1022 : Int).toNat (wrap64 (x4_1 + 1))) (wrap64 (x4_1 + 1)) l0_0 a0_1) else (none)) else (none))) else (spec_WordsOf.l0 k1 y1021 (wrap64 (x4_1 + 1)) l0_0 a0_1))) else (none)) else (none)) = some r := H
                      have A21 := Aside0.mk A210
                      clear A210
                      by_cases c22 : 0 ≤ t1020
                      · rw [if_pos c22] at H
                        have c22b0 : decide (0 ≤ t1020) = true := decide_eq_true c22
                        clear c22
                        by_cases c23 : t1020 < (x3_1.length : Int)
                        · rw [if_pos c23] at H
                          have c23b0 : decide (t1020 < (x3_1.length : Int)) = true := decide_eq_true c23
                          clear c23
                          obtain ⟨y1021, hy1021⟩ : ∃ y_ : List Int, y_ = (y1019.set (t1020 : Int).toNat (wrap64 (x4_1 + 1))) := ⟨_, rfl⟩
                          replace H : (if x4_1 < (wrap64 (a0_1 - 1)) then ((spec_ViaAt.f (rd l0_0 x4_1)).bind fun t1022 => (if 0 ≤ t1022 then (if t1022 < (x3_1.length : Int) then (spec_WordsOf.l0 k1 (y1021.set (t1022 : Int).toNat (wrap64 (x4_1 + 1))) (wrap64 (x4_1 + 1)) l0_0 a0_1) else (none)) else (none))) else (spec_WordsOf.l0 k1 y1021 (wrap64 (x4_1 + 1)) l0_0 a0_1)) = some r := by first | (rw [hy1021]; with_reducible exact H) | (have H2_ := (Option.bind_some _ _).symm.trans H; rw [hy1021]; with_reducible exact H2_) | (have H2_ := (Option.bind_some _ _).symm.trans H; with_reducible exact H2_) | with_reducible exact H | (rw [hy1021]; exact H) | exact H
                          have Ny1021 := Aside0.mk hy1021
                          clear hy1021
                          by_cases c25 : x4_1 < (wrap64 (a0_1 - 1))
                          · rw [if_pos c25] at H
                            have c25b0 : decide (x4_1 < (wrap64 (a0_1 - 1))) = true := decide_eq_true c25
                            clear c25
                            replace H := Option.bind_eq_some_iff.mp H
                            obtain ⟨t1022, A260, H⟩ := H
                            replace H : (if 0 ≤ t1022 then (if t1022 < (x3_1.length : Int) then (spec_WordsOf.l0 k1 (y1021.set (t1022 : Int).toNat (wrap64 (x4_1 + 1))) (wrap64 (x4_1 + 1)) l0_0 a0_1) else (none)) else (none)) = some r := H
                            have A26 := Aside0.mk A260
                            clear A260
                            by_cases c27 : 0 ≤ t1022
                            · rw [if_pos c27] at H
                              have c27b0 : decide (0 ≤ t1022) = true := decide_eq_true c27
                              clear c27
                              by_cases c28 : t1022 < (x3_1.length : Int)
                              · rw [if_pos c28] at H
                                have c28b0 : decide (t1022 < (x3_1.length : Int)) = true := decide_eq_true c28
                                clear c28
                                obtain ⟨y1023, hy1023⟩ : ∃ y_ : List Int, y_ = (y1021.set (t1022 : Int).toNat (wrap64 (x4_1 + 1))) := ⟨_, rfl⟩
                                replace H : (spec_WordsOf.l0 k1 y1023 (wrap64 (x4_1 + 1)) l0_0 a0_1) = some r := by first | (rw [hy1023]; with_reducible exact H) | (have H2_ := (Option.bind_some _ _).symm.trans H; rw [hy1023]; with_reducible exact H2_) | (have H2_ := (Option.bind_some _ _).symm.trans H; with_reducible exact H2_) | with_reducible exact H | (rw [hy1023]; exact H) | exact H
                                have Ny1023 := Aside0.mk hy1023
                                clear hy1023
                                have H' := Aside0.mk H
                                clear H
                                have hcz30_0 : wr.cell? ⟨gb1009, 0, none⟩ = some (.slice A0_0 l0_0.length c0_0) := (blk_cell BK1009.out 0).trans rfl
                                have hcz30_1 : wr.cell? ⟨gb1009, 1, none⟩ = some (.int .i64 a0_1) := (blk_cell BK1009.out 1).trans rfl
                                have hfz30_0 := blk_frozen BK1009.out 0
                                have hfz30_1 := blk_frozen BK1009.out 1
                                have p1017 : 0 ≤ (x4_1 : Int) := of_decide_eq_true (by first | (with_reducible assumption) | assumption)
                                have q1017 : x4_1 < (l0_0.length : Int) := of_decide_eq_true (by first | (with_reducible assumption) | assumption)
                                obtain ⟨ad1017, e1017, hx1017_0⟩ := Kd.at_int HR0_0.out x4_1 p1017 q1017
                                cases e1017
                                replace hx1017_0 := (HB.out.cell (World.block_lt_of_cell? w _ hx1017_0)).trans hx1017_0
                                replace p1017 := eq_true p1017
                                replace q1017 := eq_true q1017
                                go_wp2_with (first | ((with_reducible refine gate_callee (f := 168) rfl ?_); refine goesL_ (some 23) rfl rfl Try.func168 (by kernel_rfl) rfl #[.int .i64 x4_1] rfl (by (try simp only [List.map_toArray, List.map_cons, List.map_nil]); first | done | rfl | (simp only [List.length_drop, List.length_take]; rfl)) ?_; (with_reducible refine (spec_RowAt.calls x4_1 t1018 _ A13.out).mono ?_); rintro e w' ⟨rfl, ⟨nd, rfl⟩⟩; refine ⟨_, rfl, ?_⟩; (try (rw [drewN_self wr]; generalize hq_ : World.drewN wr _ = wr; have n0_ : Aside0 (Kd.R (Kd.int .i64) 3 wr w.heap.size (fun _ => True) v1015 x3_1) := ⟨by rw [← hq_]; exact (by (with_reducible repeat (first | apply Kd.R_alloc | apply Kd.R_drewN | apply Kd.R_drew)); exact HO_3.out)⟩; have n1_ : Aside0 (wr.heap[gb1009]? = some (.cells #[.slice (some ad1017) l0_0.length c0_0, .int .i64 a0_1] 65 (0, 0))) := ⟨by rw [← hq_]; exact (by (with_reducible repeat (first | refine blk_drewN ?_ _ | refine blk_drew ?_ | refine blk_alloc ?_ _)); exact BK1009.out)⟩; have n2_ : Aside0 (Below w.heap.size w wr) := ⟨by rw [← hq_]; exact (by repeat (first | (with_reducible first | exact HB.out | apply below_alloc | apply pw_below_drewN | apply below_drew1 | refine below_set ?_ GE1009.out) | exact HB.out))⟩; clear HO_3 BK1009 HB hq_; have HO_3 := n0_; have BK1009 := n1_; have HB := n2_; clear n0_ n1_ n2_)); have p16 : 0 ≤ (t1018 : Int) := of_decide_eq_true (by first | (with_reducible assumption) | assumption); have q16 : (t1018 : Int) < ((x3_1.length : Int) : Int) := of_decide_eq_true (by first | (with_reducible assumption) | assumption); obtain ⟨go16, co16, eo16, gb16, gl16, cl16, HG16⟩ := Kd.R_form HO_3.out (by omega); (first | cases eo16 | (injection eo16 with ea_ en_ ec_; (first | subst ea_ | (injection ea_ with ea_; subst ea_)); subst ec_; clear en_)); have GB16 := Aside0.mk gb16; have GG16 := Aside0.mk HG16; clear gb16 gl16 HG16; obtain ⟨hx16_0, hf16_0⟩ := Kd.R_celln 0 HO_3.out (t1018 : Int) p16 q16; replace p16 := eq_true p16; replace q16 := eq_true q16; obtain ⟨hy31_, hz31_⟩ := Kd.R_celln 0 HO_3.out (t1018 : Int) (of_decide_eq_true (by first | (with_reducible assumption) | assumption)) (of_decide_eq_true (by first | (with_reducible assumption) | assumption)); have HP31 := Kd.R_putg HO_3.out (t1018 : Int) (rd l0_0 x4_1)) | ((with_reducible refine gate_store (t := 3) (p := 25) rfl ?_); refine store_event (t := 3) (p := 25) (v := ?vo_w32) (w1 := (wr.setCell ⟨go16, (t1018 : Int).toNat, none⟩ (.int .i64 (rd l0_0 x4_1)))) ?hg ?ho ?hn ?hr ?_; (case ho => rfl); (case hg => rfl); (case hn => rfl); (case hr => first | (go_simp; done) | (go_simp; rfl)); intro w32 hw; have hg : wr.grownBy w32 (some go16) := (by rw [hw]; exact HP31.2); have hp_ : Kd.R (Kd.int .i64) 3 w32 w.heap.size (fun _ => True) (.slice (some ⟨go16, 0, none⟩) x3_1.length co16) y1019 := (by rw [hw, Ny1019.out]; exact HP31.1); clear HP31; have n0_ := Aside0.mk (hp_); have n1_ := Aside0.mk (blk_grown (g := gb1009) (o := .cells #[.slice (some ad1017) l0_0.length c0_0, .int .i64 a0_1] 65 (0, 0)) (by (with_reducible repeat (first | refine blk_drewN ?_ _ | refine blk_drew ?_ | refine blk_alloc ?_ _)); exact BK1009.out) hg (Kd.R_ne HO_3.out BK1009.out (by decide))); have n2_ := Aside0.mk ((by rw [hw]; exact below_set (HB.out) GB16.out : Below w.heap.size w w32)); clear HO_3; clear BK1009; clear HB; have HO_3 := n0_; have BK1009 := n1_; have HB := n2_; clear n0_ n1_ n2_; clear hg hw hp_) | ((with_reducible refine gate_callee (f := 169) rfl ?_); refine goesL_ (some 30) rfl rfl Try.func169 (by kernel_rfl) rfl #[.int .i64 (rd l0_0 x4_1)] rfl (by (try simp only [List.map_toArray, List.map_cons, List.map_nil]); first | done | rfl | (simp only [List.length_drop, List.length_take]; rfl)) ?_; (with_reducible refine (spec_OwnerAt.calls (rd l0_0 x4_1) t1020 _ A21.out).mono ?_); rintro e w' ⟨rfl, ⟨nd, rfl⟩⟩; refine ⟨_, rfl, ?_⟩; (try (rw [drewN_self w32]; generalize hq_ : World.drewN w32 _ = w32; have n0_ : Aside0 (Kd.R (Kd.int .i64) 3 w32 w.heap.size (fun _ => True) (.slice (some ⟨go16, 0, none⟩) x3_1.length co16) y1019) := ⟨by rw [← hq_]; exact (by (with_reducible repeat (first | apply Kd.R_alloc | apply Kd.R_drewN | apply Kd.R_drew)); exact HO_3.out)⟩; have n1_ : Aside0 (w32.heap[gb1009]? = some (.cells #[.slice (some ad1017) l0_0.length c0_0, .int .i64 a0_1] 65 (0, 0))) := ⟨by rw [← hq_]; exact (by (with_reducible repeat (first | refine blk_drewN ?_ _ | refine blk_drew ?_ | refine blk_alloc ?_ _)); exact BK1009.out)⟩; have n2_ : Aside0 (Below w.heap.size w w32) := ⟨by rw [← hq_]; exact (by repeat (first | (with_reducible first | exact HB.out | apply below_alloc | apply pw_below_drewN | apply below_drew1 | refine below_set ?_ GE1009.out) | exact HB.out))⟩; clear HO_3 BK1009 HB hq_; have HO_3 := n0_; have BK1009 := n1_; have HB := n2_; clear n0_ n1_ n2_)); have p24 : 0 ≤ (t1020 : Int) := of_decide_eq_true (by first | (with_reducible assumption) | assumption); have q24 : (t1020 : Int) < ((x3_1.length : Int) : Int) := of_decide_eq_true (by first | (with_reducible assumption) | assumption); obtain ⟨hx24_0, hf24_0⟩ := Kd.R_celln 0 HO_3.out (t1020 : Int) p24 q24; replace p24 := eq_true p24; replace q24 := eq_true q24; obtain ⟨hy33_, hz33_⟩ := Kd.R_celln 0 HO_3.out (t1020 : Int) (of_decide_eq_true (by first | (with_reducible assumption) | assumption)) (of_decide_eq_true (by first | (with_reducible assumption) | assumption)); have HP33 := Kd.R_putg HO_3.out (t1020 : Int) (wrap64 (x4_1 + 1))) | ((with_reducible refine gate_store (t := 3) (p := 33) rfl ?_); refine store_event (t := 3) (p := 33) (v := ?vo_w34) (w1 := (w32.setCell ⟨go16, (t1020 : Int).toNat, none⟩ (.int .i64 (wrap64 (x4_1 + 1))))) ?hg ?ho ?hn ?hr ?_; (case ho => rfl); (case hg => rfl); (case hn => rfl); (case hr => first | (go_simp; done) | (go_simp; rfl)); intro w34 hw; have hg : w32.grownBy w34 (some go16) := (by rw [hw]; exact HP33.2); have hp_ : Kd.R (Kd.int .i64) 3 w34 w.heap.size (fun _ => True) (.slice (some ⟨go16, 0, none⟩) x3_1.length co16) y1021 := (by rw [hw, Ny1021.out]; exact HP33.1); clear HP33; have n0_ := Aside0.mk (hp_); have n1_ := Aside0.mk (blk_grown (g := gb1009) (o := .cells #[.slice (some ad1017) l0_0.length c0_0, .int .i64 a0_1] 65 (0, 0)) (by (with_reducible repeat (first | refine blk_drewN ?_ _ | refine blk_drew ?_ | refine blk_alloc ?_ _)); exact BK1009.out) hg (Kd.R_ne HO_3.out BK1009.out (by decide))); have n2_ := Aside0.mk ((by rw [hw]; exact below_set (HB.out) GB16.out : Below w.heap.size w w34)); clear HO_3; clear BK1009; clear HB; have HO_3 := n0_; have BK1009 := n1_; have HB := n2_; clear n0_ n1_ n2_; clear hg hw hp_; have hcz35_0 : w34.cell? ⟨gb1009, 0, none⟩ = some (.slice (some ad1017) l0_0.length c0_0) := (blk_cell BK1009.out 0).trans rfl; have hcz35_1 : w34.cell? ⟨gb1009, 1, none⟩ = some (.int .i64 a0_1) := (blk_cell BK1009.out 1).trans rfl; have hfz35_0 := blk_frozen BK1009.out 0; have hfz35_1 := blk_frozen BK1009.out 1) | ((with_reducible refine gate_callee (f := 170) rfl ?_); refine goesL_ (some 41) rfl rfl Try.func170 (by kernel_rfl) rfl #[.int .i64 (rd l0_0 x4_1)] rfl (by (try simp only [List.map_toArray, List.map_cons, List.map_nil]); first | done | rfl | (simp only [List.length_drop, List.length_take]; rfl)) ?_; (with_reducible refine (spec_ViaAt.calls (rd l0_0 x4_1) t1022 _ A26.out).mono ?_); rintro e w' ⟨rfl, ⟨nd, rfl⟩⟩; refine ⟨_, rfl, ?_⟩; (try (rw [drewN_self w34]; generalize hq_ : World.drewN w34 _ = w34; have n0_ : Aside0 (Kd.R (Kd.int .i64) 3 w34 w.heap.size (fun _ => True) (.slice (some ⟨go16, 0, none⟩) x3_1.length co16) y1021) := ⟨by rw [← hq_]; exact (by (with_reducible repeat (first | apply Kd.R_alloc | apply Kd.R_drewN | apply Kd.R_drew)); exact HO_3.out)⟩; have n1_ : Aside0 (w34.heap[gb1009]? = some (.cells #[.slice (some ad1017) l0_0.length c0_0, .int .i64 a0_1] 65 (0, 0))) := ⟨by rw [← hq_]; exact (by (with_reducible repeat (first | refine blk_drewN ?_ _ | refine blk_drew ?_ | refine blk_alloc ?_ _)); exact BK1009.out)⟩; have n2_ : Aside0 (Below w.heap.size w w34) := ⟨by rw [← hq_]; exact (by repeat (first | (with_reducible first | exact HB.out | apply below_alloc | apply pw_below_drewN | apply below_drew1 | refine below_set ?_ GE1009.out) | exact HB.out))⟩; clear HO_3 BK1009 HB hq_; have HO_3 := n0_; have BK1009 := n1_; have HB := n2_; clear n0_ n1_ n2_)); have p29 : 0 ≤ (t1022 : Int) := of_decide_eq_true (by first | (with_reducible assumption) | assumption); have q29 : (t1022 : Int) < ((x3_1.length : Int) : Int) := of_decide_eq_true (by first | (with_reducible assumption) | assumption); obtain ⟨hx29_0, hf29_0⟩ := Kd.R_celln 0 HO_3.out (t1022 : Int) p29 q29; replace p29 := eq_true p29; replace q29 := eq_true q29; obtain ⟨hy36_, hz36_⟩ := Kd.R_celln 0 HO_3.out (t1022 : Int) (of_decide_eq_true (by first | (with_reducible assumption) | assumption)) (of_decide_eq_true (by first | (with_reducible assumption) | assumption)); have HP36 := Kd.R_putg HO_3.out (t1022 : Int) (wrap64 (x4_1 + 1))) | ((with_reducible refine gate_store (t := 3) (p := 44) rfl ?_); refine store_event (t := 3) (p := 44) (v := ?vo_w37) (w1 := (w34.setCell ⟨go16, (t1022 : Int).toNat, none⟩ (.int .i64 (wrap64 (x4_1 + 1))))) ?hg ?ho ?hn ?hr ?_; (case ho => rfl); (case hg => rfl); (case hn => rfl); (case hr => first | (go_simp; done) | (go_simp; rfl)); intro w37 hw; have hg : w34.grownBy w37 (some go16) := (by rw [hw]; exact HP36.2); have hp_ : Kd.R (Kd.int .i64) 3 w37 w.heap.size (fun _ => True) (.slice (some ⟨go16, 0, none⟩) x3_1.length co16) y1023 := (by rw [hw, Ny1023.out]; exact HP36.1); clear HP36; have n0_ := Aside0.mk (hp_); have n1_ := Aside0.mk (blk_grown (g := gb1009) (o := .cells #[.slice (some ad1017) l0_0.length c0_0, .int .i64 a0_1] 65 (0, 0)) (by (with_reducible repeat (first | refine blk_drewN ?_ _ | refine blk_drew ?_ | refine blk_alloc ?_ _)); exact BK1009.out) hg (Kd.R_ne HO_3.out BK1009.out (by decide))); have n2_ := Aside0.mk ((by rw [hw]; exact below_set (HB.out) GB16.out : Below w.heap.size w w37)); clear HO_3; clear BK1009; clear HB; have HO_3 := n0_; have BK1009 := n1_; have HB := n2_; clear n0_ n1_ n2_; clear hg hw hp_))
                                go_roundg k1
                                case measure => have := HK1.out; omega
                                case rel => exact ⟨(y1023), (wrap64 (x4_1 + 1)), (by first | rfl | (simp; done) | (simp [*]; done)), H', ⟨by have := HK1.out; omega⟩, ⟨by (with_reducible repeat (first | apply Kd.R_alloc | apply Kd.R_drewN | apply Kd.R_drew)); exact HO_3.out⟩, ⟨by (with_reducible repeat (first | refine blk_drewN ?_ _ | refine blk_drew ?_ | refine blk_alloc ?_ _)); exact BK1009.out⟩, ⟨by repeat (first | (with_reducible first | exact HB.out | apply below_alloc | apply pw_below_drewN | apply below_drew1 | refine below_set ?_ GE1009.out) | exact HB.out)⟩⟩
                              · rw [if_neg c28] at H
                                exact absurd H (by simp)
                            · rw [if_neg c27] at H
                              exact absurd H (by simp)
                          · rw [if_neg c25] at H
                            have c25b0 : decide (x4_1 < (wrap64 (a0_1 - 1))) = false := decide_eq_false c25
                            clear c25
                            have H' := Aside0.mk H
                            clear H
                            have hcz38_0 : wr.cell? ⟨gb1009, 0, none⟩ = some (.slice A0_0 l0_0.length c0_0) := (blk_cell BK1009.out 0).trans rfl
                            have hcz38_1 : wr.cell? ⟨gb1009, 1, none⟩ = some (.int .i64 a0_1) := (blk_cell BK1009.out 1).trans rfl
                            have hfz38_0 := blk_frozen BK1009.out 0
                            have hfz38_1 := blk_frozen BK1009.out 1
                            have p1017 : 0 ≤ (x4_1 : Int) := of_decide_eq_true (by first | (with_reducible assumption) | assumption)
                            have q1017 : x4_1 < (l0_0.length : Int) := of_decide_eq_true (by first | (with_reducible assumption) | assumption)
                            obtain ⟨ad1017, e1017, hx1017_0⟩ := Kd.at_int HR0_0.out x4_1 p1017 q1017
                            cases e1017
                            replace hx1017_0 := (HB.out.cell (World.block_lt_of_cell? w _ hx1017_0)).trans hx1017_0
                            replace p1017 := eq_true p1017
                            replace q1017 := eq_true q1017
                            go_wp2_with (first | ((with_reducible refine gate_callee (f := 168) rfl ?_); refine goesL_ (some 23) rfl rfl Try.func168 (by kernel_rfl) rfl #[.int .i64 x4_1] rfl (by (try simp only [List.map_toArray, List.map_cons, List.map_nil]); first | done | rfl | (simp only [List.length_drop, List.length_take]; rfl)) ?_; (with_reducible refine (spec_RowAt.calls x4_1 t1018 _ A13.out).mono ?_); rintro e w' ⟨rfl, ⟨nd, rfl⟩⟩; refine ⟨_, rfl, ?_⟩; (try (rw [drewN_self wr]; generalize hq_ : World.drewN wr _ = wr; have n0_ : Aside0 (Kd.R (Kd.int .i64) 3 wr w.heap.size (fun _ => True) v1015 x3_1) := ⟨by rw [← hq_]; exact (by (with_reducible repeat (first | apply Kd.R_alloc | apply Kd.R_drewN | apply Kd.R_drew)); exact HO_3.out)⟩; have n1_ : Aside0 (wr.heap[gb1009]? = some (.cells #[.slice (some ad1017) l0_0.length c0_0, .int .i64 a0_1] 65 (0, 0))) := ⟨by rw [← hq_]; exact (by (with_reducible repeat (first | refine blk_drewN ?_ _ | refine blk_drew ?_ | refine blk_alloc ?_ _)); exact BK1009.out)⟩; have n2_ : Aside0 (Below w.heap.size w wr) := ⟨by rw [← hq_]; exact (by repeat (first | (with_reducible first | exact HB.out | apply below_alloc | apply pw_below_drewN | apply below_drew1 | refine below_set ?_ GE1009.out) | exact HB.out))⟩; clear HO_3 BK1009 HB hq_; have HO_3 := n0_; have BK1009 := n1_; have HB := n2_; clear n0_ n1_ n2_)); have p16 : 0 ≤ (t1018 : Int) := of_decide_eq_true (by first | (with_reducible assumption) | assumption); have q16 : (t1018 : Int) < ((x3_1.length : Int) : Int) := of_decide_eq_true (by first | (with_reducible assumption) | assumption); obtain ⟨go16, co16, eo16, gb16, gl16, cl16, HG16⟩ := Kd.R_form HO_3.out (by omega); (first | cases eo16 | (injection eo16 with ea_ en_ ec_; (first | subst ea_ | (injection ea_ with ea_; subst ea_)); subst ec_; clear en_)); have GB16 := Aside0.mk gb16; have GG16 := Aside0.mk HG16; clear gb16 gl16 HG16; obtain ⟨hx16_0, hf16_0⟩ := Kd.R_celln 0 HO_3.out (t1018 : Int) p16 q16; replace p16 := eq_true p16; replace q16 := eq_true q16; obtain ⟨hy39_, hz39_⟩ := Kd.R_celln 0 HO_3.out (t1018 : Int) (of_decide_eq_true (by first | (with_reducible assumption) | assumption)) (of_decide_eq_true (by first | (with_reducible assumption) | assumption)); have HP39 := Kd.R_putg HO_3.out (t1018 : Int) (rd l0_0 x4_1)) | ((with_reducible refine gate_store (t := 3) (p := 25) rfl ?_); refine store_event (t := 3) (p := 25) (v := ?vo_w40) (w1 := (wr.setCell ⟨go16, (t1018 : Int).toNat, none⟩ (.int .i64 (rd l0_0 x4_1)))) ?hg ?ho ?hn ?hr ?_; (case ho => rfl); (case hg => rfl); (case hn => rfl); (case hr => first | (go_simp; done) | (go_simp; rfl)); intro w40 hw; have hg : wr.grownBy w40 (some go16) := (by rw [hw]; exact HP39.2); have hp_ : Kd.R (Kd.int .i64) 3 w40 w.heap.size (fun _ => True) (.slice (some ⟨go16, 0, none⟩) x3_1.length co16) y1019 := (by rw [hw, Ny1019.out]; exact HP39.1); clear HP39; have n0_ := Aside0.mk (hp_); have n1_ := Aside0.mk (blk_grown (g := gb1009) (o := .cells #[.slice (some ad1017) l0_0.length c0_0, .int .i64 a0_1] 65 (0, 0)) (by (with_reducible repeat (first | refine blk_drewN ?_ _ | refine blk_drew ?_ | refine blk_alloc ?_ _)); exact BK1009.out) hg (Kd.R_ne HO_3.out BK1009.out (by decide))); have n2_ := Aside0.mk ((by rw [hw]; exact below_set (HB.out) GB16.out : Below w.heap.size w w40)); clear HO_3; clear BK1009; clear HB; have HO_3 := n0_; have BK1009 := n1_; have HB := n2_; clear n0_ n1_ n2_; clear hg hw hp_) | ((with_reducible refine gate_callee (f := 169) rfl ?_); refine goesL_ (some 30) rfl rfl Try.func169 (by kernel_rfl) rfl #[.int .i64 (rd l0_0 x4_1)] rfl (by (try simp only [List.map_toArray, List.map_cons, List.map_nil]); first | done | rfl | (simp only [List.length_drop, List.length_take]; rfl)) ?_; (with_reducible refine (spec_OwnerAt.calls (rd l0_0 x4_1) t1020 _ A21.out).mono ?_); rintro e w' ⟨rfl, ⟨nd, rfl⟩⟩; refine ⟨_, rfl, ?_⟩; (try (rw [drewN_self w40]; generalize hq_ : World.drewN w40 _ = w40; have n0_ : Aside0 (Kd.R (Kd.int .i64) 3 w40 w.heap.size (fun _ => True) (.slice (some ⟨go16, 0, none⟩) x3_1.length co16) y1019) := ⟨by rw [← hq_]; exact (by (with_reducible repeat (first | apply Kd.R_alloc | apply Kd.R_drewN | apply Kd.R_drew)); exact HO_3.out)⟩; have n1_ : Aside0 (w40.heap[gb1009]? = some (.cells #[.slice (some ad1017) l0_0.length c0_0, .int .i64 a0_1] 65 (0, 0))) := ⟨by rw [← hq_]; exact (by (with_reducible repeat (first | refine blk_drewN ?_ _ | refine blk_drew ?_ | refine blk_alloc ?_ _)); exact BK1009.out)⟩; have n2_ : Aside0 (Below w.heap.size w w40) := ⟨by rw [← hq_]; exact (by repeat (first | (with_reducible first | exact HB.out | apply below_alloc | apply pw_below_drewN | apply below_drew1 | refine below_set ?_ GE1009.out) | exact HB.out))⟩; clear HO_3 BK1009 HB hq_; have HO_3 := n0_; have BK1009 := n1_; have HB := n2_; clear n0_ n1_ n2_)); have p24 : 0 ≤ (t1020 : Int) := of_decide_eq_true (by first | (with_reducible assumption) | assumption); have q24 : (t1020 : Int) < ((x3_1.length : Int) : Int) := of_decide_eq_true (by first | (with_reducible assumption) | assumption); obtain ⟨hx24_0, hf24_0⟩ := Kd.R_celln 0 HO_3.out (t1020 : Int) p24 q24; replace p24 := eq_true p24; replace q24 := eq_true q24; obtain ⟨hy41_, hz41_⟩ := Kd.R_celln 0 HO_3.out (t1020 : Int) (of_decide_eq_true (by first | (with_reducible assumption) | assumption)) (of_decide_eq_true (by first | (with_reducible assumption) | assumption)); have HP41 := Kd.R_putg HO_3.out (t1020 : Int) (wrap64 (x4_1 + 1))) | ((with_reducible refine gate_store (t := 3) (p := 33) rfl ?_); refine store_event (t := 3) (p := 33) (v := ?vo_w42) (w1 := (w40.setCell ⟨go16, (t1020 : Int).toNat, none⟩ (.int .i64 (wrap64 (x4_1 + 1))))) ?hg ?ho ?hn ?hr ?_; (case ho => rfl); (case hg => rfl); (case hn => rfl); (case hr => first | (go_simp; done) | (go_simp; rfl)); intro w42 hw; have hg : w40.grownBy w42 (some go16) := (by rw [hw]; exact HP41.2); have hp_ : Kd.R (Kd.int .i64) 3 w42 w.heap.size (fun _ => True) (.slice (some ⟨go16, 0, none⟩) x3_1.length co16) y1021 := (by rw [hw, Ny1021.out]; exact HP41.1); clear HP41; have n0_ := Aside0.mk (hp_); have n1_ := Aside0.mk (blk_grown (g := gb1009) (o := .cells #[.slice (some ad1017) l0_0.length c0_0, .int .i64 a0_1] 65 (0, 0)) (by (with_reducible repeat (first | refine blk_drewN ?_ _ | refine blk_drew ?_ | refine blk_alloc ?_ _)); exact BK1009.out) hg (Kd.R_ne HO_3.out BK1009.out (by decide))); have n2_ := Aside0.mk ((by rw [hw]; exact below_set (HB.out) GB16.out : Below w.heap.size w w42)); clear HO_3; clear BK1009; clear HB; have HO_3 := n0_; have BK1009 := n1_; have HB := n2_; clear n0_ n1_ n2_; clear hg hw hp_; have hcz43_0 : w42.cell? ⟨gb1009, 0, none⟩ = some (.slice (some ad1017) l0_0.length c0_0) := (blk_cell BK1009.out 0).trans rfl; have hcz43_1 : w42.cell? ⟨gb1009, 1, none⟩ = some (.int .i64 a0_1) := (blk_cell BK1009.out 1).trans rfl; have hfz43_0 := blk_frozen BK1009.out 0; have hfz43_1 := blk_frozen BK1009.out 1))
                            go_roundg k1
                            case measure => have := HK1.out; omega
                            case rel => exact ⟨(y1021), (wrap64 (x4_1 + 1)), (by first | rfl | (simp; done) | (simp [*]; done)), H', ⟨by have := HK1.out; omega⟩, ⟨by (with_reducible repeat (first | apply Kd.R_alloc | apply Kd.R_drewN | apply Kd.R_drew)); exact HO_3.out⟩, ⟨by (with_reducible repeat (first | refine blk_drewN ?_ _ | refine blk_drew ?_ | refine blk_alloc ?_ _)); exact BK1009.out⟩, ⟨by repeat (first | (with_reducible first | exact HB.out | apply below_alloc | apply pw_below_drewN | apply below_drew1 | refine below_set ?_ GE1009.out) | exact HB.out)⟩⟩
                        · rw [if_neg c23] at H
                          exact absurd H (by simp)
                      · rw [if_neg c22] at H
                        exact absurd H (by simp)
                  · rw [if_neg c15] at H
                    exact absurd H (by simp)
                · rw [if_neg c14] at H
                  exact absurd H (by simp)
              · rw [if_neg c12] at H
                exact absurd H (by simp)
            · rw [if_neg c11] at H
              exact absurd H (by simp)
          · rw [if_neg c10] at H
            have c10b0 : decide (x4_1 < 4) = false := decide_eq_false c10
            clear c10
            have H' := Aside0.mk H
            clear H
            go_wp2
            go_loopg [6] k1 (fun kq v6 w' => ∃ (x3_2 : List Int) (x6_2 : Int), v6 = .int .i64 x6_2 ∧ Aside0 (spec_WordsOf.l1 kq x3_2 x6_2 l0_0 a0_1 = some r) ∧ Aside0 (kq ≤ k1) ∧ Aside0 (Kd.R (Kd.int .i64) 3 w' w.heap.size (fun _ => True) v1015 x3_2) ∧ Aside0 (w'.heap[gb1009]? = some (.cells #[(.slice A0_0 l0_0.length c0_0), .int .i64 a0_1] 65 (0, 0))) ∧ Aside0 (Below w.heap.size w w'))
            case atStart => exact ⟨(x3_1), (0), (by first | rfl | (simp; done) | (simp [*]; done)), H', ⟨Nat.le_refl _⟩, ⟨by (with_reducible repeat (first | apply Kd.R_alloc | apply Kd.R_drewN | apply Kd.R_drew)); exact HO_3.out⟩, ⟨by (with_reducible repeat (first | refine blk_drewN ?_ _ | refine blk_drew ?_ | refine blk_alloc ?_ _)); exact BK1009.out⟩, ⟨by repeat (first | (with_reducible first | exact HB.out | apply below_alloc | apply pw_below_drewN | apply below_drew1 | refine below_set ?_ GE1009.out) | exact HB.out)⟩⟩
            case round =>
              clear H'
              try clear c1
              try clear p1
              try clear q1
              try clear hx1
              try clear hf1
              try clear c2
              try clear p2
              try clear q2
              try clear hx2
              try clear hf2
              try clear c3
              try clear c4
              try clear c4b0
              try clear c4b1
              try clear p6
              try clear c10
              try clear c10b0
              try clear p10
              try clear q10
              try clear hx10
              try clear c11
              try clear c11b0
              try clear c12
              try clear c12b0
              try clear c14
              try clear c14b0
              try clear c15
              try clear c15b0
              try clear c16
              try clear p16
              try clear q16
              try clear hx16
              try clear hf16
              try clear c17
              try clear c17b0
              try clear c17b1
              try clear c22
              try clear c22b0
              try clear c23
              try clear c23b0
              try clear p24
              try clear q24
              try clear hx24
              try clear hf24
              try clear c25
              try clear c25b0
              try clear c27
              try clear c27b0
              try clear c28
              try clear c28b0
              try clear p29
              try clear q29
              try clear hx29
              try clear hf29
              try clear hcz18_0
              try clear hcz18_1
              try clear hcz30_0
              try clear hcz30_1
              try clear hcz35_0
              try clear hcz35_1
              try clear hcz38_0
              try clear hcz38_1
              try clear hcz43_0
              try clear hcz43_1
              try clear hcz6_0
              try clear hcz6_1
              try clear hfz18_0
              try clear hfz18_1
              try clear hfz30_0
              try clear hfz30_1
              try clear hfz35_0
              try clear hfz35_1
              try clear hfz38_0
              try clear hfz38_1
              try clear hfz43_0
              try clear hfz43_1
              try clear hfz6_0
              try clear hfz6_1
              try clear hx1017_0
              try clear hx16_0
              try clear hx24_0
              try clear hx29_0
              try clear p1017
              try clear p16
              try clear p2
              try clear p24
              try clear p29
              try clear q1017
              try clear q16
              try clear q24
              try clear q29
              obtain ⟨x3_2, x6_2, rfl, HA, HK2, HO_3, BK1009, HB⟩ := hrel
              cases gk with
              | zero => exact absurd HA.out (by simp [spec_WordsOf.l1])
              | succ k2 =>
                have H := HA.out
                clear HA
                simp only [spec_WordsOf.l1] at H
                by_cases c44 : x6_2 < 3
                · rw [if_pos c44] at H
                  have c44b0 : decide (x6_2 < 3) = true := decide_eq_true c44
                  clear c44
                  replace H := Option.bind_eq_some_iff.mp H
                  obtain ⟨t1024, A450, H⟩ := H
                  replace H : ((spec_HowMany.f k2 l0_0 a0_1 x6_2).bind fun t1025 => (if 0 ≤ t1024 then (if t1024 < (x3_2.length : Int) then (spec_WordsOf.l1 k2 (x3_2.set (t1024 : Int).toNat t1025) (wrap64 (x6_2 + 1)) l0_0 a0_1) else (none)) else (none))) = some r := H
                  have A45 := Aside0.mk A450
                  clear A450
                  replace H := Option.bind_eq_some_iff.mp H
                  obtain ⟨t1025, A460, H⟩ := H
                  replace H : (if 0 ≤ t1024 then (if t1024 < (x3_2.length : Int) then (spec_WordsOf.l1 k2 (x3_2.set (t1024 : Int).toNat t1025) (wrap64 (x6_2 + 1)) l0_0 a0_1) else (none)) else (none)) = some r := H
                  have A46 := Aside0.mk A460
                  clear A460
                  by_cases c47 : 0 ≤ t1024
                  · rw [if_pos c47] at H
                    have c47b0 : decide (0 ≤ t1024) = true := decide_eq_true c47
                    clear c47
                    by_cases c48 : t1024 < (x3_2.length : Int)
                    · rw [if_pos c48] at H
                      have c48b0 : decide (t1024 < (x3_2.length : Int)) = true := decide_eq_true c48
                      clear c48
                      obtain ⟨y1026, hy1026⟩ : ∃ y_ : List Int, y_ = (x3_2.set (t1024 : Int).toNat t1025) := ⟨_, rfl⟩
                      replace H : (spec_WordsOf.l1 k2 y1026 (wrap64 (x6_2 + 1)) l0_0 a0_1) = some r := by first | (rw [hy1026]; with_reducible exact H) | (have H2_ := (Option.bind_some _ _).symm.trans H; rw [hy1026]; with_reducible exact H2_) | (have H2_ := (Option.bind_some _ _).symm.trans H; with_reducible exact H2_) | with_reducible exact H | (rw [hy1026]; exact H) | exact H
                      have Ny1026 := Aside0.mk hy1026
                      clear hy1026
                      have H' := Aside0.mk H
                      clear H
                      try go_wp2
                      have n0_ := Aside0.mk (Kd.R_drew HO_3.out)
                      have n1_ := Aside0.mk (blk_drew BK1009.out)
                      have n2_ := Aside0.mk (below_drew1 HB.out)
                      clear HO_3
                      clear BK1009
                      clear HB
                      have HO_3 := n0_
                      have BK1009 := n1_
                      have HB := n2_
                      clear n0_ n1_ n2_
                      refine start_ (n := 8) (S := fun w' => w'.cell? ⟨gb1009, 0, none⟩ = some (.slice A0_0 l0_0.length c0_0) ∧ w'.cell? ⟨gb1009, 1, none⟩ = some (.int .i64 a0_1)) (ds := [7]) #[false, false, false, false, false, false, false, false] (by kernel_rfl) rfl rfl ⟨(blk_cell BK1009.out 0).trans rfl, (blk_cell BK1009.out 1).trans rfl⟩ (fun hHeld => ?_); refine with_tabW spec_WordsOf.tab16 spec_WordsOf.bits16 (fun HT_ HW_ => ?_)
                      generalize wr.drew = w50 at HO_3 BK1009 HB hHeld ⊢
                      refine pure_ (i := 0) (N := some 49) (v := ?_) (a' := ?_) #[true, false, false, false, false, false, false, false] rfl rfl (any_of HT_.out (by kernel_rfl)) (fun _ _ _ h => h) (Or.inl ⟨by rfl, ?_⟩) ?_ ?_
                      rotate_left
                      · intro w'
                        go_simp
                        with_reducible rfl
                      rotate_left
                      · simp only [Act.put, List.setIfInBounds_toArray, List.set_cons_zero, List.set_cons_succ, i64_w, i32_w]
                        rfl
                      refine pure_ (i := 1) (N := some 50) (v := ?_) (a' := ?_) #[true, true, false, false, false, false, false, false] rfl rfl (any_of HT_.out (by kernel_rfl)) (fun _ _ _ h => h) (Or.inl ⟨by rfl, ?_⟩) ?_ ?_
                      rotate_left
                      · intro w'
                        go_simp
                        with_reducible rfl
                      rotate_left
                      · simp only [Act.put, List.setIfInBounds_toArray, List.set_cons_zero, List.set_cons_succ, i64_w, i32_w]
                        rfl
                      refine pure_ (i := 4) (N := some 53) (v := ?_) (a' := ?_) #[true, true, false, false, true, false, false, false] rfl rfl (any_of HT_.out (by kernel_rfl)) (fun _ _ _ h => h) (Or.inl ⟨by rfl, ?_⟩) ?_ ?_
                      rotate_left
                      · intro w'
                        go_simp
                        with_reducible rfl
                      rotate_left
                      · simp only [Act.put, List.setIfInBounds_toArray, List.set_cons_zero, List.set_cons_succ, i64_w, i32_w]
                        rfl
                      refine take_ (i := 3) (N := some 52) (v := ?_) (a' := ?_) #[true, true, false, true, true, false, false, false] rfl rfl (take_ofW HT_.out HW_.out (by kernel_rfl)) (fun _ _ _ h => h) (Or.inl ⟨by rfl, ?_⟩) hHeld ?_ ?_
                      rotate_left
                      · rintro w' ⟨s0, s1⟩
                        go_simp
                        with_reducible rfl
                      rotate_left
                      · simp only [Act.put, List.setIfInBounds_toArray, List.set_cons_zero, List.set_cons_succ, i64_w, i32_w]
                        rfl
                      refine one_ (i := 2) (N := some 51) #[true, true, true, true, true, false, false, false] rfl rfl (one_of HT_.out (by kernel_rfl)) (by decide) (fun K hK => ?_)
                      refine goes_ Try.func171 (by kernel_rfl) rfl #[.int .i64 x6_2] (by rfl) rfl rfl (by (try simp only [List.map_toArray, List.map_cons, List.map_nil]); first | done | rfl | (simp only [List.length_drop, List.length_take]; rfl)) ?_
                      with_reducible refine (spec_CountAt.calls x6_2 t1024 _ A45.out).mono ?_
                      rintro e w' ⟨rfl, ⟨nd, rfl⟩⟩
                      refine ⟨_, rfl, ?_⟩
                      refine hK.out _ _ ⟨(blk_cell BK1009.out 0).trans rfl, (blk_cell BK1009.out 1).trans rfl⟩ (fun hHeld => ?_)
                      clear hK K
                      refine norm_ (a' := ?_) ?_ ?_
                      rotate_left
                      · show Act.put _ (some 51) _ = _
                        simp only [Act.put, List.setIfInBounds_toArray, List.set_cons_zero, List.set_cons_succ, i64_w, i32_w]
                        rfl
                      refine one_ (i := 5) (N := some 54) #[true, true, true, true, true, true, false, false] rfl rfl (one_of HT_.out (by kernel_rfl)) (by decide) (fun K hK => ?_)
                      refine goes_ Try.func166 (by kernel_rfl) rfl #[.agg #[.slice A0_0 l0_0.length c0_0, .int .i64 a0_1], .int .i64 x6_2] (by rfl) rfl rfl (by (try simp only [List.map_toArray, List.map_cons, List.map_nil]); first | done | rfl | (simp only [List.length_drop, List.length_take]; rfl)) ?_
                      with_reducible refine (spec_HowMany.calls k2 _ _ l0_0 a0_1 x6_2 t1025 _ ?side1 ?side2 A46.out).mono ?_
                      (case side1 => repeat (first | exact (Kd.C_below HR0_0.out (by repeat (first | (with_reducible first | exact HB.out | apply below_alloc | apply pw_below_drewN | apply below_drew1 | refine below_set ?_ GE1009.out) | exact HB.out))) | (with_reducible refine Kd.C_alloc ?_ _) | (with_reducible refine Kd.C_drewN ?_ _) | (with_reducible refine Kd.C_drew ?_)))
                      (case side2 => exact HC0_0.out)
                      rintro e w51 ⟨rfl, hb⟩
                      refine ⟨_, rfl, ?_⟩
                      have n0_ := Aside0.mk (Kd.R_below (by (with_reducible repeat (first | apply Kd.R_alloc | apply Kd.R_drewN | apply Kd.R_drew)); exact HO_3.out) hb)
                      have n1_ := Aside0.mk (blk_below (g := gb1009) (o := .cells #[.slice A0_0 l0_0.length c0_0, .int .i64 a0_1] 65 (0, 0)) (by (with_reducible repeat (first | refine blk_drewN ?_ _ | refine blk_drew ?_ | refine blk_alloc ?_ _)); exact BK1009.out) hb)
                      have n2_ := Aside0.mk (below_step (by repeat (first | (with_reducible first | exact HB.out | apply below_alloc | apply pw_below_drewN | apply below_drew1 | refine below_set ?_ GE1009.out) | exact HB.out)) hb)
                      clear HO_3
                      clear BK1009
                      clear HB
                      have HO_3 := n0_
                      have BK1009 := n1_
                      have HB := n2_
                      clear n0_ n1_ n2_
                      (try clear hb)
                      (try clear hb2)
                      (try clear hk)
                      (try clear hi)
                      have p49 : 0 ≤ (t1024 : Int) := of_decide_eq_true (by first | (with_reducible assumption) | assumption)
                      have q49 : (t1024 : Int) < ((x3_2.length : Int) : Int) := of_decide_eq_true (by first | (with_reducible assumption) | assumption)
                      obtain ⟨go49, co49, eo49, gb49, gl49, cl49, HG49⟩ := Kd.R_form HO_3.out (by omega)
                      (first | cases eo49 | (injection eo49 with ea_ en_ ec_; (first | subst ea_ | (injection ea_ with ea_; subst ea_)); subst ec_; clear en_))
                      have GB49 := Aside0.mk gb49
                      have GG49 := Aside0.mk HG49
                      clear gb49 gl49 HG49
                      obtain ⟨hx49_0, hf49_0⟩ := Kd.R_celln 0 HO_3.out (t1024 : Int) p49 q49
                      replace p49 := eq_true p49
                      replace q49 := eq_true q49
                      have HP52 := Kd.R_putn HO_3.out (t1024 : Int) t1025
                      rw [← Ny1026.out] at HP52
                      have HQ52 := Aside0.mk HP52
                      clear HP52
                      refine hK.out _ _ ⟨(blk_cell BK1009.out 0).trans rfl, (blk_cell BK1009.out 1).trans rfl⟩ (fun hHeld => ?_)
                      clear hK K
                      refine norm_ (a' := ?_) ?_ ?_
                      rotate_left
                      · show Act.put _ (some 54) _ = _
                        simp only [Act.put, List.setIfInBounds_toArray, List.set_cons_zero, List.set_cons_succ, i64_w, i32_w]
                        rfl
                      refine pure_ (i := 6) (N := some 55) (v := ?_) (a' := ?_) #[true, true, true, true, true, true, true, false] rfl rfl (any_of HT_.out (by kernel_rfl)) (fun _ _ _ h => h) (Or.inl ⟨by rfl, ?_⟩) ?_ ?_
                      rotate_left
                      · intro w'
                        go_simp
                        with_reducible rfl
                      rotate_left
                      · simp only [Act.put, List.setIfInBounds_toArray, List.set_cons_zero, List.set_cons_succ, i64_w, i32_w]
                        rfl
                      refine last_ (i := 7) (N := none) #[true, true, true, true, true, true, true, true] rfl rfl (one_of HT_.out (by kernel_rfl)) (by decide) (fun K hK => ?_)
                      refine skip_ (w1 := ?_) (by rfl) rfl ?_ ?_
                      rotate_left
                      · go_simp
                        rfl
                      refine hK.out _ _ ?_
                      clear hK K
                      refine done_ (done_of HT_.out (by kernel_rfl)) ?_
                      try go_wp2
                      go_roundg k2
                      case measure => have := HK1.out; have := HK2.out; omega
                      case rel => exact ⟨(y1026), (wrap64 (x6_2 + 1)), (by first | rfl | (simp; done) | (simp [*]; done)), H', ⟨by have := HK1.out; have := HK2.out; omega⟩, ⟨by (with_reducible repeat (first | apply Kd.R_alloc | apply Kd.R_drewN | apply Kd.R_drew)); exact HQ52.out⟩, ⟨by (with_reducible repeat (first | refine blk_drewN ?_ _ | refine blk_drew ?_ | refine blk_alloc ?_ _)); refine blk_far ?_ (by have h_ := Kd.R_ne HO_3.out BK1009.out (by decide); intro e_; exact h_ (by rw [e_]; rfl)) _; (with_reducible repeat (first | refine blk_drewN ?_ _ | refine blk_drew ?_ | refine blk_alloc ?_ _)); exact BK1009.out⟩, ⟨by repeat (first | (with_reducible first | exact HB.out | apply below_alloc | apply pw_below_drewN | apply below_drew1 | refine below_set ?_ GB49.out | refine below_set ?_ GE1009.out) | exact HB.out)⟩⟩
                    · rw [if_neg c48] at H
                      exact absurd H (by simp)
                  · rw [if_neg c47] at H
                    exact absurd H (by simp)
                · rw [if_neg c44] at H
                  have c44b0 : decide (x6_2 < 3) = false := decide_eq_false c44
                  clear c44
                  replace H := Option.bind_eq_some_iff.mp H
                  obtain ⟨t1027, A530, H⟩ := H
                  replace H : (if 0 ≤ t1027 then (if t1027 < (x3_2.length : Int) then (some (x3_2.set (t1027 : Int).toNat a0_1)) else (none)) else (none)) = some r := H
                  have A53 := Aside0.mk A530
                  clear A530
                  by_cases c54 : 0 ≤ t1027
                  · rw [if_pos c54] at H
                    have c54b0 : decide (0 ≤ t1027) = true := decide_eq_true c54
                    clear c54
                    by_cases c55 : t1027 < (x3_2.length : Int)
                    · rw [if_pos c55] at H
                      have c55b0 : decide (t1027 < (x3_2.length : Int)) = true := decide_eq_true c55
                      clear c55
                      obtain ⟨y1028, hy1028⟩ : ∃ y_ : List Int, y_ = (x3_2.set (t1027 : Int).toNat a0_1) := ⟨_, rfl⟩
                      replace H : (some y1028) = some r := by first | (rw [hy1028]; with_reducible exact H) | (have H2_ := (Option.bind_some _ _).symm.trans H; rw [hy1028]; with_reducible exact H2_) | (have H2_ := (Option.bind_some _ _).symm.trans H; with_reducible exact H2_) | with_reducible exact H | (rw [hy1028]; exact H) | exact H
                      have Ny1028 := Aside0.mk hy1028
                      clear hy1028
                      obtain rfl := Option.some.inj H
                      try go_wp2
                      have n0_ := Aside0.mk (Kd.R_drew HO_3.out)
                      have n1_ := Aside0.mk (blk_drew BK1009.out)
                      have n2_ := Aside0.mk (below_drew1 HB.out)
                      clear HO_3
                      clear BK1009
                      clear HB
                      have HO_3 := n0_
                      have BK1009 := n1_
                      have HB := n2_
                      clear n0_ n1_ n2_
                      refine start_ (n := 6) (S := fun w' => w'.cell? ⟨gb1009, 0, none⟩ = some (.slice A0_0 l0_0.length c0_0) ∧ w'.cell? ⟨gb1009, 1, none⟩ = some (.int .i64 a0_1)) (ds := [5]) #[false, false, false, false, false, false] (by kernel_rfl) rfl rfl ⟨(blk_cell BK1009.out 0).trans rfl, (blk_cell BK1009.out 1).trans rfl⟩ (fun hHeld => ?_)
                      generalize wr.drew = w57 at HO_3 BK1009 HB hHeld ⊢
                      refine pure_ (i := 0) (N := some 56) (v := ?_) (a' := ?_) #[true, false, false, false, false, false] rfl rfl (by kernel_rfl) (fun _ _ _ h => h) (Or.inl ⟨by rfl, ?_⟩) ?_ ?_
                      rotate_left
                      · intro w'
                        go_simp
                        with_reducible rfl
                      rotate_left
                      · simp only [Act.put, List.setIfInBounds_toArray, List.set_cons_zero, List.set_cons_succ, i64_w, i32_w]
                        rfl
                      refine pure_ (i := 2) (N := some 58) (v := ?_) (a' := ?_) #[true, false, true, false, false, false] rfl rfl (by kernel_rfl) (fun _ _ _ h => h) (Or.inl ⟨by rfl, ?_⟩) ?_ ?_
                      rotate_left
                      · intro w'
                        go_simp
                        with_reducible rfl
                      rotate_left
                      · simp only [Act.put, List.setIfInBounds_toArray, List.set_cons_zero, List.set_cons_succ, i64_w, i32_w]
                        rfl
                      refine take_ (i := 3) (N := some 59) (v := ?_) (a' := ?_) #[true, false, true, true, false, false] rfl rfl (by kernel_rfl) (fun _ _ _ h => h) (Or.inl ⟨by rfl, ?_⟩) hHeld ?_ ?_
                      rotate_left
                      · rintro w' ⟨s0, s1⟩
                        go_simp
                        with_reducible rfl
                      rotate_left
                      · simp only [Act.put, List.setIfInBounds_toArray, List.set_cons_zero, List.set_cons_succ, i64_w, i32_w]
                        rfl
                      refine one_ (i := 1) (N := some 57) #[true, true, true, true, false, false] rfl rfl (by kernel_rfl) (by decide) (fun K hK => ?_)
                      refine goes_ Try.func172 (by kernel_rfl) rfl #[] (by rfl) rfl rfl (by (try simp only [List.map_toArray, List.map_cons, List.map_nil]); first | done | rfl | (simp only [List.length_drop, List.length_take]; rfl)) ?_
                      with_reducible refine (spec_StateAt.calls  t1027 _ A53.out).mono ?_
                      rintro e w' ⟨rfl, ⟨nd, rfl⟩⟩
                      refine ⟨_, rfl, ?_⟩
                      have p56 : 0 ≤ (t1027 : Int) := of_decide_eq_true (by first | (with_reducible assumption) | assumption)
                      have q56 : (t1027 : Int) < ((x3_2.length : Int) : Int) := of_decide_eq_true (by first | (with_reducible assumption) | assumption)
                      obtain ⟨go56, co56, eo56, gb56, gl56, cl56, HG56⟩ := Kd.R_form HO_3.out (by omega)
                      (first | cases eo56 | (injection eo56 with ea_ en_ ec_; (first | subst ea_ | (injection ea_ with ea_; subst ea_)); subst ec_; clear en_))
                      have GB56 := Aside0.mk gb56
                      have GG56 := Aside0.mk HG56
                      clear gb56 gl56 HG56
                      obtain ⟨hx56_0, hf56_0⟩ := Kd.R_celln 0 HO_3.out (t1027 : Int) p56 q56
                      replace p56 := eq_true p56
                      replace q56 := eq_true q56
                      have HP58 := Kd.R_putn HO_3.out (t1027 : Int) a0_1
                      rw [← Ny1028.out] at HP58
                      have HQ58 := Aside0.mk HP58
                      clear HP58
                      refine hK.out _ _ ⟨(blk_cell BK1009.out 0).trans rfl, (blk_cell BK1009.out 1).trans rfl⟩ (fun hHeld => ?_)
                      clear hK K
                      refine norm_ (a' := ?_) ?_ ?_
                      rotate_left
                      · show Act.put _ (some 57) _ = _
                        simp only [Act.put, List.setIfInBounds_toArray, List.set_cons_zero, List.set_cons_succ, i64_w, i32_w]
                        rfl
                      refine pure_ (i := 4) (N := some 60) (v := ?_) (a' := ?_) #[true, true, true, true, true, false] rfl rfl (by kernel_rfl) (fun _ _ _ h => h) (Or.inl ⟨by rfl, ?_⟩) ?_ ?_
                      rotate_left
                      · intro w'
                        go_simp
                        with_reducible rfl
                      rotate_left
                      · simp only [Act.put, List.setIfInBounds_toArray, List.set_cons_zero, List.set_cons_succ, i64_w, i32_w]
                        rfl
                      refine last_ (i := 5) (N := none) #[true, true, true, true, true, true] rfl rfl (by kernel_rfl) (by decide) (fun K hK => ?_)
                      refine skip_ (w1 := ?_) (by rfl) rfl ?_ ?_
                      rotate_left
                      · go_simp
                        rfl
                      refine hK.out _ _ ?_
                      clear hK K
                      refine done_ (by kernel_rfl) ?_
                      try go_wp2
                      go_ret
                      exact ⟨_, by first | rfl | (simp [errW_none, errW_some] <;> rfl) | (simp [*, errW_none, errW_some] <;> rfl), by (with_reducible repeat (first | apply Kd.R_alloc | apply Kd.R_drewN | apply Kd.R_drew)); exact HQ58.out, by repeat (first | (with_reducible first | exact HB.out | apply below_alloc | apply pw_below_drewN | apply below_drew1 | refine below_set ?_ GB56.out | refine below_set ?_ GE1009.out) | exact HB.out)⟩
                    · rw [if_neg c55] at H
                      exact absurd H (by simp)
                  · rw [if_neg c54] at H
                    exact absurd H (by simp)
    · rw [if_neg c4] at H
      exact absurd H (by simp)
  · replace c3 := Bool.eq_false_iff.mpr c3
    subst c3
    have H1 : (some (([] : List Int))) = some r := by rw [if_neg (show ¬ (false = true) by decide)] at H; exact H
    clear H
    have H := H1
    clear H1
    obtain ⟨y1011, hy1011⟩ : ∃ y_ : List Int, y_ = (([] : List Int)) := ⟨_, rfl⟩
    replace H : (some y1011) = some r := by first | (rw [hy1011]; with_reducible exact H) | (have H2_ := (Option.bind_some _ _).symm.trans H; rw [hy1011]; with_reducible exact H2_) | (have H2_ := (Option.bind_some _ _).symm.trans H; with_reducible exact H2_) | with_reducible exact H | (rw [hy1011]; exact H) | exact H
    have Ny1011 := Aside0.mk hy1011
    clear hy1011
    obtain rfl := Option.some.inj H
    go_enter Try.func127, Try.ntmps127
    go_wp2_with (first | ((with_reducible refine gate_dst (N := 1) rfl ?_); refine box_event ?hg (N := 1) ?hd (cs := #[.slice A0_0 l0_0.length c0_0, .int .i64 a0_1]) (t := 65) ?hr ?_; (case hd => rfl); (case hg => rfl); (case hr => first | (go_simp; done) | (go_simp; rfl)); intro gb1009 hg w59 hbox hb; have n0_ := Aside0.mk (below_step (by repeat (first | (with_reducible first | exact HB.out | apply below_alloc | apply pw_below_drewN | apply below_drew1) | exact HB.out)) hb); have n1_ := Aside0.mk (hbox); have n2_ := Aside0.mk ((by rw [hg]; exact (below_size (by repeat (first | (with_reducible first | exact HB.out | apply below_alloc | apply pw_below_drewN | apply below_drew1) | exact HB.out))) : w.heap.size ≤ gb1009)); have n3_ := Aside0.mk ((by rw [hg]; exact (below_size (by repeat (first | (with_reducible first | exact HB.out | apply below_alloc | apply pw_below_drewN | apply below_drew1) | exact HB.out))) : w.heap.size ≤ gb1009)); clear HB; have HB := n0_; have BK1009 := n1_; have GW1009 := n2_; have GE1009 := n3_; clear n0_ n1_ n2_ n3_; clear hb hbox hg; have hcz60_0 : w59.cell? ⟨gb1009, 0, none⟩ = some (.slice A0_0 l0_0.length c0_0) := (blk_cell BK1009.out 0).trans rfl; have hcz60_1 : w59.cell? ⟨gb1009, 1, none⟩ = some (.int .i64 a0_1) := (blk_cell BK1009.out 1).trans rfl; have hfz60_0 := blk_frozen BK1009.out 0; have hfz60_1 := blk_frozen BK1009.out 1) | ((with_reducible refine gate_callee (f := 115) rfl ?_); refine goesL_ (some 8) rfl rfl Try.func115 (by kernel_rfl) rfl #[.agg #[.slice A0_0 l0_0.length c0_0, .int .i64 a0_1]] rfl (by (try simp only [List.map_toArray, List.map_cons, List.map_nil]); first | done | rfl | (simp only [List.length_drop, List.length_take]; rfl)) ?_; (with_reducible refine (spec_RowsOk.calls k _ _ l0_0 a0_1 false _ ?side1 ?side2 A2.out).mono ?_); (case side1 => repeat (first | exact (Kd.C_below HR0_0.out HB.out) | (with_reducible refine Kd.C_alloc ?_ _) | (with_reducible refine Kd.C_drewN ?_ _) | (with_reducible refine Kd.C_drew ?_))); (case side2 => exact HC0_0.out); rintro e w61 ⟨rfl, hb⟩; refine ⟨_, rfl, ?_⟩; have n0_ := Aside0.mk (blk_below (g := gb1009) (o := .cells #[.slice A0_0 l0_0.length c0_0, .int .i64 a0_1] 65 (0, 0)) (by (with_reducible repeat (first | refine blk_drewN ?_ _ | refine blk_drew ?_ | refine blk_alloc ?_ _)); exact BK1009.out) hb); have n1_ := Aside0.mk (below_step (by repeat (first | (with_reducible first | exact HB.out | apply below_alloc | apply pw_below_drewN | apply below_drew1 | refine below_set ?_ GE1009.out) | exact HB.out)) hb); clear BK1009; clear HB; have BK1009 := n0_; have HB := n1_; clear n0_ n1_; (try clear hb); (try clear hb2); (try clear hk); (try clear hi)) | ((with_reducible refine gate_dst (N := 10) rfl ?_); refine Kd.R_lit (Kd.int .i64) _ 3 ?hg (N := 10) ?hd (xs := ([] : List Int)) (inner := []) (ok := fun _ => True) (okp := fun _ => True) ?hr ?hp (fun _ hk => hk) trivial (Below.refl _ _) (Nat.le_refl _) (by simp) ?_; (case hd => rfl); (case hg => rfl); (case hr => first | (go_simp; done) | (go_simp; rfl)); (case hp => exact (Reps.none _ _)); intro v1012 w62 ho63 hb hg_ hnew_; clear hg_ hnew_; (first | rw [← Ny1011.out] at ho63 | (simp only [Int.reduceToNat] at ho63; rw [← Ny1011.out] at ho63)); have n0_ := Aside0.mk (Kd.R_lower ho63 (below_size (by repeat (first | (with_reducible first | exact HB.out | apply below_alloc | apply pw_below_drewN | apply below_drew1 | refine below_set ?_ GE1009.out) | exact HB.out)))); have n1_ := Aside0.mk (blk_below (g := gb1009) (o := .cells #[.slice A0_0 l0_0.length c0_0, .int .i64 a0_1] 65 (0, 0)) (by (with_reducible repeat (first | refine blk_drewN ?_ _ | refine blk_drew ?_ | refine blk_alloc ?_ _)); exact BK1009.out) hb); have n2_ := Aside0.mk (below_step (by repeat (first | (with_reducible first | exact HB.out | apply below_alloc | apply pw_below_drewN | apply below_drew1 | refine below_set ?_ GE1009.out) | exact HB.out)) hb); clear BK1009; clear HB; have HO1013 := n0_; have BK1009 := n1_; have HB := n2_; clear n0_ n1_ n2_; clear hb ho63))
    go_ret
    exact ⟨_, by first | rfl | (simp [errW_none, errW_some] <;> rfl) | (simp [*, errW_none, errW_some] <;> rfl), by (with_reducible repeat (first | apply Kd.R_alloc | apply Kd.R_drewN | apply Kd.R_drew)); exact HO1013.out, by repeat (first | (with_reducible first | exact HB.out | apply below_alloc | apply pw_below_drewN | apply below_drew1 | refine below_set ?_ GE1009.out) | exact HB.out)⟩
end Go.Proofs.Ytopikhjcbcpiaaa.Q
section
namespace Go.Proofs.Ytopikhjcbcpiaaa.Q
set_option linter.unusedSimpArgs false
open Go.RowKit Go.Proofs.YtopikhjcbcpiaaaW.PrintWords Go.Proofs.YtopikhjcbcpiaaaX
theorem rd_nat (l : List Int) (i : Nat) : rd l (i : Int) = l.getD i 0 := by simp [rd]
theorem getD_at {l : List Int} {i : Nat} (h : i < l.length) : l.getD i 0 = l[i] := by simp [List.getD_eq_getElem?_getD, List.getElem?_eq_getElem h]
def idxFrom (v : Int) : List Int → Nat → Int
  | [], _ => -1
  | x :: xs, i => if x = v then (i : Int) else idxFrom v xs (i + 1)
def idxI (l : List Int) (v : Int) : Int := idxFrom v l 0
theorem idxFrom_at (v : Int) (l : List Int) (i : Nat) (h : i < l.length) : idxFrom v (l.drop i) i = if l.getD i 0 = v then (i : Int) else idxFrom v (l.drop (i + 1)) (i + 1) := by
  rw [List.drop_eq_getElem_cons h, idxFrom, getD_at h]
theorem ev_spec_KeyOf (l : List Int) (st v : Int) (hl : l.length ≤ 1048576) : Ev (fun k => spec_KeyOf.f k l st v) (idxI l v) := by
  refine ev_to (ev_down (g := fun k i => spec_KeyOf.l0 k v i l st) (R := fun i => idxFrom v (l.drop i) i) (n := l.length) (fun i hi h => ?_) 0 (by omega)) (by simp [idxI])
  by_cases hlt : i < l.length
  · rw [idxFrom_at v l i hlt]
    by_cases e : l.getD i 0 = v
    · rw [if_pos e]
      refine ev_succ (fun k => ?_)
      simp only [spec_KeyOf.l0, rd_nat]
      rw [if_pos (by omega), if_pos (by omega), if_pos e]
    · rw [if_neg e]
      refine Ev.step (fun k => ?_) (h hlt)
      simp only [spec_KeyOf.l0, rd_nat]
      rw [if_pos (by omega), if_pos (by omega), if_neg e, wrap_succ hlt (by omega)]
  · obtain rfl : i = l.length := by omega
    refine ev_succ (fun k => ?_)
    simp only [spec_KeyOf.l0]
    rw [if_neg (by omega)]
    simp [idxFrom]
theorem ev_Index (l : List Int) (v : Int) (hl : l.length ≤ 1048576) : Ev (fun k => slices_Index_int_int.f k l v) (idxI l v) := by
  refine ev_to (ev_down (g := fun k i => slices_Index_int_int.l0 k l v (l.length : Int) i) (R := fun i => idxFrom v (l.drop i) i) (n := l.length) (fun i hi h => ?_) 0 (by omega)) (by simp [idxI])
  by_cases hlt : i < l.length
  · rw [idxFrom_at v l i hlt]
    by_cases e : l.getD i 0 = v
    · rw [if_pos e]
      refine ev_succ (fun k => ?_)
      simp only [slices_Index_int_int.l0, rd_nat]
      rw [if_pos (by omega), if_pos (by omega), if_pos (by omega), if_pos e.symm]
    · rw [if_neg e]
      refine Ev.step (fun k => ?_) (h hlt)
      simp only [slices_Index_int_int.l0, rd_nat]
      rw [if_pos (by omega), if_pos (by omega), if_pos (by omega), if_neg (Ne.symm e), wrap_succ hlt (by omega)]
  · obtain rfl : i = l.length := by omega
    refine ev_succ (fun k => ?_)
    simp only [slices_Index_int_int.l0]
    rw [if_neg (by omega)]
    simp [idxFrom]
theorem ev_Contains (l : List Int) (v : Int) (hl : l.length ≤ 1048576) : Ev (fun k => slices_Contains_int_int.f k l v) (decide (idxI l v ≥ 0)) :=
  Ev.bind (f := fun _ t => some (decide (t ≥ 0))) (ev_Index l v hl) (Ev.now _)
theorem idxFrom_bd (v : Int) : ∀ (l : List Int) (i : Nat), idxFrom v l i = -1 ∨ ((i : Int) ≤ idxFrom v l i ∧ idxFrom v l i < i + l.length)
  | [], i => .inl rfl
  | x :: xs, i => by
    unfold idxFrom
    by_cases e : x = v
    · rw [if_pos e]; right; simp; omega
    · rw [if_neg e]
      rcases idxFrom_bd v xs (i + 1) with h | ⟨h1, h2⟩
      · exact .inl h
      · right; simp only [List.length_cons]; omega
theorem idxFrom_mem (v : Int) : ∀ (l : List Int) (i : Nat), idxFrom v l i = -1 ↔ v ∉ l
  | [], i => by simp [idxFrom]
  | x :: xs, i => by
    unfold idxFrom
    by_cases e : x = v
    · rw [if_pos e]; simp [e]
    · rw [if_neg e, idxFrom_mem v xs (i + 1)]; simp [Ne.symm e]
theorem idxFrom_append (v : Int) : ∀ (l m : List Int) (i : Nat), v ∉ l → idxFrom v (l ++ m) i = idxFrom v m (i + l.length)
  | [], m, i, _ => by simp
  | x :: xs, m, i, h => by
    simp only [List.mem_cons, not_or] at h
    show (if x = v then (i : Int) else idxFrom v (xs ++ m) (i + 1)) = _
    rw [if_neg (Ne.symm h.1), idxFrom_append v xs m (i + 1) h.2]
    simp only [List.length_cons]
    congr 1
    omega
theorem idx_first (l : List Int) (i : Nat) (h : i < l.length) : idxI l (l.getD i 0) = (i : Int) ↔ ¬ idxI (l.take i) (l.getD i 0) ≥ 0 := by
  have hv := getD_at h
  constructor
  · intro he hc
    rcases idxFrom_bd (l.getD i 0) (l.take i) 0 with h1 | ⟨h1, h2⟩
    · unfold idxI at hc; omega
    · have hm : l.getD i 0 ∈ l.take i := by
        by_cases hm : l.getD i 0 ∈ l.take i
        · exact hm
        · have := (idxFrom_mem _ _ 0).2 hm
          unfold idxI at hc
          omega
      have key : ∀ (v : Int) (a b : List Int) (j : Nat), v ∈ a → idxFrom v (a ++ b) j = idxFrom v a j := by
        intro v a
        induction a with
        | nil => intro b j hm; cases hm
        | cons x xs ih =>
          intro b j hm
          show (if x = v then (j : Int) else idxFrom v (xs ++ b) (j + 1)) = (if x = v then (j : Int) else idxFrom v xs (j + 1))
          by_cases e : x = v
          · rw [if_pos e, if_pos e]
          · rw [if_neg e, if_neg e]
            refine ih b (j + 1) ?_
            rcases List.mem_cons.1 hm with h' | h'
            · exact absurd h'.symm e
            · exact h'
      unfold idxI at he
      have hs : l = l.take i ++ l.drop i := (List.take_append_drop i l).symm
      rw [hs, key _ _ _ 0 (by rw [← hs]; exact hm)] at he
      rw [← hs] at he
      rw [he] at h2
      simp at h2
      omega
  · intro hc
    have hm : l.getD i 0 ∉ l.take i := by
      refine (idxFrom_mem _ _ 0).1 ?_
      rcases idxFrom_bd (l.getD i 0) (l.take i) 0 with h1 | ⟨h1, h2⟩
      · exact h1
      · exact absurd (by unfold idxI; omega) hc
    have e : idxFrom (l.getD i 0) (l.take i ++ l.drop i) 0 = idxFrom (l.getD i 0) (l.drop i) (0 + (l.take i).length) := idxFrom_append _ _ _ _ hm
    rw [List.take_append_drop] at e
    unfold idxI
    rw [e, List.drop_eq_getElem_cons h, idxFrom, if_pos hv.symm]
    simp
    omega
def rowB (l : List Int) (i : Nat) : Bool := decide (l.getD i 0 = 0) || (inB (l.getD i 0) 1 6 && decide (idxI l (l.getD i 0) = (i : Int)))
def rowsOkB (l : List Int) (st : Int) : Bool := (List.range l.length).all (rowB l) && (decide (l.length = 4) && inB st 0 5)
theorem rowsDown {g : Nat → Int → Option Bool} (l : List Int) (rest : Bool)
    (hstep : ∀ i : Nat, i < l.length → (rowB l i = true → ∀ r, Ev (fun k => g k ((i + 1 : Nat) : Int)) r → Ev (fun k => g k (i : Int)) r) ∧ (rowB l i = false → Ev (fun k => g k (i : Int)) false))
    (hend : Ev (fun k => g k (l.length : Int)) rest) : Ev (fun k => g k 0) ((List.range l.length).all (rowB l) && rest) := by
  have key := ev_down (g := g) (R := fun i => ((List.range l.length).drop i).all (rowB l) && rest) (n := l.length) (fun i hi h => ?_) 0 (by omega)
  · simpa using key
  · by_cases hlt : i < l.length
    · have hd : ((List.range l.length).drop i).all (rowB l) = (rowB l i && ((List.range l.length).drop (i + 1)).all (rowB l)) := by
        rw [List.drop_eq_getElem_cons (by simpa using hlt), List.all_cons]
        simp
      rw [hd]
      have hs := hstep i hlt
      cases hq : rowB l i with
      | true => exact ev_to (hs.1 hq _ (h hlt)) (by simp)
      | false => exact ev_to (hs.2 hq) (by simp)
    · obtain rfl : i = l.length := by omega
      exact ev_to hend (by rw [List.drop_eq_nil_of_le (by simp)]; simp)
theorem ev_spec_RowsOk (l : List Int) (st : Int) (hl : l.length ≤ 1048576) : Ev (fun k => spec_RowsOk.f k l st) (rowsOkB l st) := by
  refine rowsDown (g := fun k i => spec_RowsOk.l0 k i l st) l _ (fun i hi => ?_) ?_
  · have hk := ev_spec_KeyOf l st (l.getD i 0) hl
    have step : ∀ k, spec_RowsOk.l0 (k + 1) (i : Int) l st = if l.getD i 0 = 0 then spec_RowsOk.l0 k ((i + 1 : Nat) : Int) l st else if inB (l.getD i 0) 1 6 = true then (spec_KeyOf.f k l st (l.getD i 0)).bind fun t => if t = (i : Int) then spec_RowsOk.l0 k ((i + 1 : Nat) : Int) l st else some false else some false := by
      intro k
      simp only [spec_RowsOk.l0, rd_nat, spec_ValOk.f, l1In_eq, Option.bind_some]
      rw [if_pos (by omega), if_pos (by omega), wrap_succ hi (by omega)]
    constructor
    · intro hq r hr
      refine Ev.step step ?_
      unfold rowB at hq
      by_cases e0 : l.getD i 0 = 0
      · exact ev_pos e0 hr
      · simp only [decide_eq_false e0, Bool.false_or, Bool.and_eq_true, decide_eq_true_eq] at hq
        refine ev_neg e0 (ev_pos hq.1 (Ev.bind (f := fun k t => if t = (i : Int) then spec_RowsOk.l0 k ((i + 1 : Nat) : Int) l st else some false) hk ?_))
        exact ev_pos hq.2 hr
    · intro hq
      refine Ev.step step ?_
      unfold rowB at hq
      simp only [Bool.or_eq_false_iff, decide_eq_false_iff_not, Bool.and_eq_false_iff] at hq
      refine ev_neg hq.1 (ev_ite (fun c => Ev.bind (f := fun k t => if t = (i : Int) then spec_RowsOk.l0 k ((i + 1 : Nat) : Int) l st else some false) hk ?_) (fun _ => Ev.now _))
      rcases hq.2 with h' | h'
      · rw [h'] at c; cases c
      · exact ev_neg h' (Ev.now _)
  · refine ev_succ (fun k => ?_)
    simp only [spec_RowsOk.l0, l1In_eq, Option.bind_some]
    rw [if_neg (by omega)]
    by_cases e : l.length = 4
    · rw [if_pos (by omega)]; simp [e]
    · rw [if_neg (by omega)]; simp [e]
theorem ev_impl_RowsOk (l : List Int) (st : Int) (hl : l.length ≤ 1048576) : Ev (fun k => impl_RowsOk.f k l st) (rowsOkB l st) := by
  refine rowsDown (g := fun k i => impl_RowsOk.l0 k l (l.length : Int) i l st) l _ (fun i hi => ?_) ?_
  · have hk := ev_Contains (l.take i) (l.getD i 0) (by rw [List.length_take]; omega)
    have hidx := idx_first l i hi
    have step : ∀ k, impl_RowsOk.l0 (k + 1) l (l.length : Int) (i : Int) l st = if l.getD i 0 = 0 then impl_RowsOk.l0 k l (l.length : Int) ((i + 1 : Nat) : Int) l st else if inB (l.getD i 0) 1 6 = true then (slices_Contains_int_int.f k (l.take i) (l.getD i 0)).bind fun t => if t = true then some false else impl_RowsOk.l0 k l (l.length : Int) ((i + 1 : Nat) : Int) l st else some false := by
      intro k
      simp only [impl_RowsOk.l0, rd_nat, impl_ValOk.f, from_eq, Option.bind_some]
      rw [if_pos (by omega), if_pos (by omega), if_pos (by omega), wrap_succ hi (by omega), if_pos (show (i : Int) ≤ (l.length : Int) by omega), Int.toNat_natCast]
    constructor
    · intro hq r hr
      refine Ev.step step ?_
      unfold rowB at hq
      by_cases e0 : l.getD i 0 = 0
      · exact ev_pos e0 hr
      · simp only [decide_eq_false e0, Bool.false_or, Bool.and_eq_true, decide_eq_true_eq] at hq
        refine ev_neg e0 (ev_pos hq.1 (Ev.bind (f := fun k t => if t = true then some false else impl_RowsOk.l0 k l (l.length : Int) ((i + 1 : Nat) : Int) l st) hk ?_))
        exact ev_neg (by simpa using hidx.1 hq.2) hr
    · intro hq
      refine Ev.step step ?_
      unfold rowB at hq
      simp only [Bool.or_eq_false_iff, decide_eq_false_iff_not, Bool.and_eq_false_iff] at hq
      refine ev_neg hq.1 (ev_ite (fun c => Ev.bind (f := fun k t => if t = true then some false else impl_RowsOk.l0 k l (l.length : Int) ((i + 1 : Nat) : Int) l st) hk ?_) (fun _ => Ev.now _))
      rcases hq.2 with h' | h'
      · rw [h'] at c; cases c
      · refine ev_pos ?_ (Ev.now _)
        have := mt hidx.2 h'
        simpa using this
  · refine ev_succ (fun k => ?_)
    simp only [impl_RowsOk.l0, from_eq, Option.bind_some]
    rw [if_neg (by omega)]
    by_cases e : l.length = 4
    · rw [if_pos (by omega)]; simp [e]
    · rw [if_neg (by omega)]; simp [e]
end Go.Proofs.Ytopikhjcbcpiaaa.Q
end
section
namespace Go.Proofs.Ytopikhjcbcpiaaa.Q
open Go.RowKit Go.Proofs.YtopikhjcbcpiaaaW.PrintWords Go.Proofs.YtopikhjcbcpiaaaW.PrintLast Go.Proofs.YtopikhjcbcpiaaaW.PrintMore
def anyO {α : Type} (p : α → Option Bool) : List α → Option Bool
  | [] => some false
  | x :: xs => (p x).bind fun b => if b = true then some true else anyO p xs
theorem anyO.leo {α : Type} {p q : α → Option Bool} (h : ∀ x, LeO (p x) (q x)) : ∀ l, LeO (anyO p l) (anyO q l)
  | [] => LeO.refl _
  | x :: xs => LeO.bind (h x) (fun _ => LeO.ite (LeO.refl _) (anyO.leo h xs))
theorem anyO.cons {α : Type} {p : α → Option Bool} {l : List α} {j : Nat} {z : α} {r : Bool} (h : anyO p (l.drop j) = some r) (hj : j < l.length) :
    ∃ b, p (l.getD j z) = some b ∧ (b = true → r = true) ∧ (b = false → anyO p (l.drop (j + 1)) = some r) := by
  have e : l.drop j = l.getD j z :: l.drop (j + 1) := by
    rw [List.drop_eq_getElem_cons hj]
    simp [List.getD_eq_getElem?_getD, List.getElem?_eq_getElem hj]
  rw [e] at h
  obtain ⟨b, hb, h2⟩ := Option.bind_eq_some_iff.mp h
  refine ⟨b, hb, ?_, ?_⟩
  · rintro rfl
    simpa using h2.symm
  · rintro rfl
    simpa using h2
theorem anyO.nil {α : Type} {p : α → Option Bool} {l : List α} {j : Nat} {r : Bool} (h : anyO p (l.drop j) = some r) (hj : l.length ≤ j) : r = false := by
  rw [List.drop_eq_nil_of_le hj] at h
  simpa [anyO] using h.symm
def impl_MemOk_1_any.f (k : Nat) (l0 : List S145) : Option Bool := anyO (fun x : S145 => impl_MemOk_1.f k x.f0 x.f1 x.f2 x.f3.f0 x.f3.f1) l0
theorem impl_MemOk_1_any.mono : ∀ l k, LeO (impl_MemOk_1_any.f k l) (impl_MemOk_1_any.f (k + 1) l) := fun l k => anyO.leo (fun _ => impl_MemOk_1.mono _ _ _ _ _ k) l
set_option maxHeartbeats 4000000 in
set_option maxRecDepth 100000 in
theorem impl_MemOk_1_idx (k : Nat) (A0 : Option Addr) (c0 : Nat) (l0 : List S145) (r : Bool) (w : World) (hr0 : Kd.C k145 w A0 l0.length l0) (h : impl_MemOk_1_any.f k l0 = some r) :
    Calls Try.prog 195 #[.slice A0 l0.length c0, .func (.func 181) #[] #[]] w fun e w' => ∃ n : Int, e = .returned (.int .i64 n) ∧ decide (n ≥ 0) = r ∧ Below w.heap.size w w' := by
  have huE := Try.underlying145
  have HR0 := Aside0.mk hr0
  have HM : l0.length ≤ 9223372036854775807 := hr0.2.1
  clear hr0
  have H0 := Aside0.mk h
  clear h
  have HW := Aside0.mk (Below.refl w.heap.size w)
  go_enter Try.func195, Try.ntmps195
  go_wp2
  go_loopg [5, 8] l0.length (fun gg _ s8 wr => ∃ kk : Nat, kk ≤ l0.length ∧ Aside0 (l0.length - kk ≤ gg) ∧ s8 = .int .i64 kk ∧ Aside0 (anyO (fun x : S145 => impl_MemOk_1.f k x.f0 x.f1 x.f2 x.f3.f0 x.f3.f1) (l0.drop kk) = some r) ∧ Aside0 (Below w.heap.size w wr))
  case atStart => exact ⟨0, Nat.zero_le _, ⟨by omega⟩, rfl, H0, HW⟩
  case round =>
    obtain ⟨kk, hkk, HF, rfl, HA, HB⟩ := hrel
    clear H0 HW
    by_cases hlt : kk < l0.length
    · have hltz : (kk : Int) < (l0.length : Int) := by omega
      obtain ⟨ad, A2, c2, A4, c4, e, hx0, hx1, hx2, hx3, hx4, hl2, hi2, hl4, hi4⟩ := at_T145 HR0.out (kk : Int) (by omega) hltz
      cases e
      replace hx0 := (HB.out.cell (World.block_lt_of_cell? w _ hx0)).trans hx0
      replace hx1 := (HB.out.cell (World.block_lt_of_cell? w _ hx1)).trans hx1
      replace hx2 := (HB.out.cell (World.block_lt_of_cell? w _ hx2)).trans hx2
      replace hx3 := (HB.out.cell (World.block_lt_of_cell? w _ hx3)).trans hx3
      replace hx4 := (HB.out.cell (World.block_lt_of_cell? w _ hx4)).trans hx4
      replace hi2 := Kd.C_below hi2 HB.out
      replace hi4 := Kd.C_below hi4 HB.out
      simp only [Int.toNat_natCast] at hx0 hx1 hx2 hx3 hx4
      have HI2 := Aside0.mk hi2
      have HL2 := Aside0.mk hl2
      clear hi2 hl2
      have HI4 := Aside0.mk hi4
      have HL4 := Aside0.mk hl4
      clear hi4 hl4
      obtain ⟨b, hb, ht, hf⟩ := anyO.cons (z := z145) HA.out hlt
      have hb := Aside0.mk (show impl_MemOk_1.f k (rd_T145 l0 (kk : Int)).f0 (rd_T145 l0 (kk : Int)).f1 (rd_T145 l0 (kk : Int)).f2 (rd_T145 l0 (kk : Int)).f3.f0 (rd_T145 l0 (kk : Int)).f3.f1 = some b from hb)
      replace ht := Aside0.mk ht
      replace hf := Aside0.mk hf
      clear HA
      cases b with
      | true =>
        have HT := Aside0.mk (ht.out rfl)
        clear ht hf
        go_wp2_with (go_at_call 181; (with_reducible refine (impl_MemOk_1.calls k (rd_T145 l0 (kk : Int)).f0 (rd_T145 l0 (kk : Int)).f1 _ _ (rd_T145 l0 (kk : Int)).f2 (rd_T145 l0 (kk : Int)).f3.f0 _ _ (rd_T145 l0 (kk : Int)).f3.f1 _ _ HI2.out HL2.out HI4.out HL4.out hb.out).mono ?_); rintro e w' ⟨rfl, hb'⟩; have HB' := Aside0.mk (below_step HB.out hb'); clear hb')
        go_ret
        exact ⟨_, rfl, by rw [HT.out]; simp, HB'.out⟩
      | false =>
        have HA := Aside0.mk (hf.out rfl)
        clear ht hf
        go_wp2_with (go_at_call 181; (with_reducible refine (impl_MemOk_1.calls k (rd_T145 l0 (kk : Int)).f0 (rd_T145 l0 (kk : Int)).f1 _ _ (rd_T145 l0 (kk : Int)).f2 (rd_T145 l0 (kk : Int)).f3.f0 _ _ (rd_T145 l0 (kk : Int)).f3.f1 _ _ HI2.out HL2.out HI4.out HL4.out hb.out).mono ?_); rintro e w' ⟨rfl, hb'⟩; have HB' := Aside0.mk (below_step HB.out hb'); clear hb')
        go_roundg (l0.length - (kk + 1))
        case measure => have := HF.out; omega
        case rel => exact ⟨kk + 1, by omega, ⟨by omega⟩, by go_num, HA, HB'⟩
    · have hltz : ¬ (kk : Int) < (l0.length : Int) := by omega
      have hr : r = false := anyO.nil HA.out (by omega)
      subst hr
      go_wp2
      go_ret
      exact ⟨_, rfl, by decide, HB.out⟩
set_option maxHeartbeats 2000000 in
theorem impl_MemOk_1_any.calls (k : Nat) (A0 : Option Addr) (c0 : Nat) (l0 : List S145) (r : Bool) (w : World) (hr0 : Kd.C k145 w A0 l0.length l0) (_hc0 : l0.length ≤ c0) (h : impl_MemOk_1_any.f k l0 = some r) :
    Calls Try.prog 180 #[.slice A0 l0.length c0, .func (.func 181) #[] #[]] w fun e w' => e = .returned (.bool r) ∧ Below w.heap.size w w' := by
  have HC := Aside0.mk (impl_MemOk_1_idx k A0 c0 l0 r w hr0 h)
  clear hr0 h
  go_enter Try.func180, Try.ntmps180
  go_wp2_with (go_at_call 195; refine HC.out.mono ?_; rintro e w' ⟨n, rfl, hn, hb⟩; have HN := Aside0.mk hn; have HB := Aside0.mk hb; clear hn hb)
  go_ret
  exact ⟨by rw [← HN.out]; rfl, HB.out⟩
def impl_ThreadOk_1_any.f (k : Nat) (l0 : List S68) : Option Bool := anyO (fun x : S68 => impl_ThreadOk_1.f k x.f0 x.f1 x.f2) l0
theorem impl_ThreadOk_1_any.mono : ∀ l k, LeO (impl_ThreadOk_1_any.f k l) (impl_ThreadOk_1_any.f (k + 1) l) := fun l k => anyO.leo (fun _ => impl_ThreadOk_1.mono _ _ _ k) l
set_option maxHeartbeats 4000000 in
set_option maxRecDepth 100000 in
theorem impl_ThreadOk_1_idx (k : Nat) (A0 : Option Addr) (c0 : Nat) (l0 : List S68) (r : Bool) (w : World) (hr0 : Kd.C k68 w A0 l0.length l0) (h : impl_ThreadOk_1_any.f k l0 = some r) :
    Calls Try.prog 151 #[.slice A0 l0.length c0, .func (.func 84) #[] #[]] w fun e w' => ∃ n : Int, e = .returned (.int .i64 n) ∧ decide (n ≥ 0) = r ∧ Below w.heap.size w w' := by
  have huE := Try.underlying68
  have HR0 := Aside0.mk hr0
  have HM : l0.length ≤ 9223372036854775807 := hr0.2.1
  clear hr0
  have H0 := Aside0.mk h
  clear h
  have HW := Aside0.mk (Below.refl w.heap.size w)
  go_enter Try.func151, Try.ntmps151
  go_wp2
  go_loopg [5, 8] l0.length (fun gg _ s8 wr => ∃ kk : Nat, kk ≤ l0.length ∧ Aside0 (l0.length - kk ≤ gg) ∧ s8 = .int .i64 kk ∧ Aside0 (anyO (fun x : S68 => impl_ThreadOk_1.f k x.f0 x.f1 x.f2) (l0.drop kk) = some r) ∧ Aside0 (Below w.heap.size w wr))
  case atStart => exact ⟨0, Nat.zero_le _, ⟨by omega⟩, rfl, H0, HW⟩
  case round =>
    obtain ⟨kk, hkk, HF, rfl, HA, HB⟩ := hrel
    clear H0 HW
    by_cases hlt : kk < l0.length
    · have hltz : (kk : Int) < (l0.length : Int) := by omega
      obtain ⟨ad, e, hx0, hx1, hx2⟩ := at_T68 HR0.out (kk : Int) (by omega) hltz
      cases e
      replace hx0 := (HB.out.cell (World.block_lt_of_cell? w _ hx0)).trans hx0
      replace hx1 := (HB.out.cell (World.block_lt_of_cell? w _ hx1)).trans hx1
      replace hx2 := (HB.out.cell (World.block_lt_of_cell? w _ hx2)).trans hx2
      simp only [Int.toNat_natCast] at hx0 hx1 hx2
      obtain ⟨b, hb, ht, hf⟩ := anyO.cons (z := z68) HA.out hlt
      have hb := Aside0.mk (show impl_ThreadOk_1.f k (rd_T68 l0 (kk : Int)).f0 (rd_T68 l0 (kk : Int)).f1 (rd_T68 l0 (kk : Int)).f2 = some b from hb)
      replace ht := Aside0.mk ht
      replace hf := Aside0.mk hf
      clear HA
      cases b with
      | true =>
        have HT := Aside0.mk (ht.out rfl)
        clear ht hf
        go_wp2_with (go_at_call 84; (with_reducible refine (impl_ThreadOk_1.calls k (rd_T68 l0 (kk : Int)).f0 (rd_T68 l0 (kk : Int)).f1 (rd_T68 l0 (kk : Int)).f2 _ _  hb.out).mono ?_); rintro e w' ⟨rfl, hb'⟩; have HB' := Aside0.mk (below_step HB.out hb'); clear hb')
        go_ret
        exact ⟨_, rfl, by rw [HT.out]; simp, HB'.out⟩
      | false =>
        have HA := Aside0.mk (hf.out rfl)
        clear ht hf
        go_wp2_with (go_at_call 84; (with_reducible refine (impl_ThreadOk_1.calls k (rd_T68 l0 (kk : Int)).f0 (rd_T68 l0 (kk : Int)).f1 (rd_T68 l0 (kk : Int)).f2 _ _  hb.out).mono ?_); rintro e w' ⟨rfl, hb'⟩; have HB' := Aside0.mk (below_step HB.out hb'); clear hb')
        go_roundg (l0.length - (kk + 1))
        case measure => have := HF.out; omega
        case rel => exact ⟨kk + 1, by omega, ⟨by omega⟩, by go_num, HA, HB'⟩
    · have hltz : ¬ (kk : Int) < (l0.length : Int) := by omega
      have hr : r = false := anyO.nil HA.out (by omega)
      subst hr
      go_wp2
      go_ret
      exact ⟨_, rfl, by decide, HB.out⟩
set_option maxHeartbeats 2000000 in
theorem impl_ThreadOk_1_any.calls (k : Nat) (A0 : Option Addr) (c0 : Nat) (l0 : List S68) (r : Bool) (w : World) (hr0 : Kd.C k68 w A0 l0.length l0) (_hc0 : l0.length ≤ c0) (h : impl_ThreadOk_1_any.f k l0 = some r) :
    Calls Try.prog 83 #[.slice A0 l0.length c0, .func (.func 84) #[] #[]] w fun e w' => e = .returned (.bool r) ∧ Below w.heap.size w w' := by
  have HC := Aside0.mk (impl_ThreadOk_1_idx k A0 c0 l0 r w hr0 h)
  clear hr0 h
  go_enter Try.func83, Try.ntmps83
  go_wp2_with (go_at_call 151; refine HC.out.mono ?_; rintro e w' ⟨n, rfl, hn, hb⟩; have HN := Aside0.mk hn; have HB := Aside0.mk hb; clear hn hb)
  go_ret
  exact ⟨by rw [← HN.out]; rfl, HB.out⟩
def impl_ThreadOk_2_any.f (l0 : List S123) : Option Bool := anyO (fun x : S123 => impl_ThreadOk_2.f x.f0 x.f1) l0
set_option maxHeartbeats 4000000 in
set_option maxRecDepth 100000 in
theorem impl_ThreadOk_2_idx (A0 : Option Addr) (c0 : Nat) (l0 : List S123) (r : Bool) (w : World) (hr0 : Kd.C k123 w A0 l0.length l0) (h : impl_ThreadOk_2_any.f l0 = some r) :
    Calls Try.prog 152 #[.slice A0 l0.length c0, .func (.func 87) #[] #[]] w fun e w' => ∃ n : Int, e = .returned (.int .i64 n) ∧ decide (n ≥ 0) = r ∧ Below w.heap.size w w' := by
  have huE := Try.underlying123
  have HR0 := Aside0.mk hr0
  have HM : l0.length ≤ 9223372036854775807 := hr0.2.1
  clear hr0
  have H0 := Aside0.mk h
  clear h
  have HW := Aside0.mk (Below.refl w.heap.size w)
  go_enter Try.func152, Try.ntmps152
  go_wp2
  go_loopg [5, 8] l0.length (fun gg _ s8 wr => ∃ kk : Nat, kk ≤ l0.length ∧ Aside0 (l0.length - kk ≤ gg) ∧ s8 = .int .i64 kk ∧ Aside0 (anyO (fun x : S123 => impl_ThreadOk_2.f x.f0 x.f1) (l0.drop kk) = some r) ∧ Aside0 (Below w.heap.size w wr))
  case atStart => exact ⟨0, Nat.zero_le _, ⟨by omega⟩, rfl, H0, HW⟩
  case round =>
    obtain ⟨kk, hkk, HF, rfl, HA, HB⟩ := hrel
    clear H0 HW
    by_cases hlt : kk < l0.length
    · have hltz : (kk : Int) < (l0.length : Int) := by omega
      obtain ⟨ad, e, hx0, hx1⟩ := at_T123 HR0.out (kk : Int) (by omega) hltz
      cases e
      replace hx0 := (HB.out.cell (World.block_lt_of_cell? w _ hx0)).trans hx0
      replace hx1 := (HB.out.cell (World.block_lt_of_cell? w _ hx1)).trans hx1
      simp only [Int.toNat_natCast] at hx0 hx1
      obtain ⟨b, hb, ht, hf⟩ := anyO.cons (z := z123) HA.out hlt
      have hb := Aside0.mk (show impl_ThreadOk_2.f (rd_T123 l0 (kk : Int)).f0 (rd_T123 l0 (kk : Int)).f1 = some b from hb)
      replace ht := Aside0.mk ht
      replace hf := Aside0.mk hf
      clear HA
      cases b with
      | true =>
        have HT := Aside0.mk (ht.out rfl)
        clear ht hf
        go_wp2_with (go_at_call 87; (with_reducible refine (impl_ThreadOk_2.calls (rd_T123 l0 (kk : Int)).f0 (rd_T123 l0 (kk : Int)).f1 _ _  hb.out).mono ?_); rintro e w' ⟨rfl, hb'⟩; have HB' := Aside0.mk (below_step HB.out hb'); clear hb')
        go_ret
        exact ⟨_, rfl, by rw [HT.out]; simp, HB'.out⟩
      | false =>
        have HA := Aside0.mk (hf.out rfl)
        clear ht hf
        go_wp2_with (go_at_call 87; (with_reducible refine (impl_ThreadOk_2.calls (rd_T123 l0 (kk : Int)).f0 (rd_T123 l0 (kk : Int)).f1 _ _  hb.out).mono ?_); rintro e w' ⟨rfl, hb'⟩; have HB' := Aside0.mk (below_step HB.out hb'); clear hb')
        go_roundg (l0.length - (kk + 1))
        case measure => have := HF.out; omega
        case rel => exact ⟨kk + 1, by omega, ⟨by omega⟩, by go_num, HA, HB'⟩
    · have hltz : ¬ (kk : Int) < (l0.length : Int) := by omega
      have hr : r = false := anyO.nil HA.out (by omega)
      subst hr
      go_wp2
      go_ret
      exact ⟨_, rfl, by decide, HB.out⟩
set_option maxHeartbeats 2000000 in
theorem impl_ThreadOk_2_any.calls (A0 : Option Addr) (c0 : Nat) (l0 : List S123) (r : Bool) (w : World) (hr0 : Kd.C k123 w A0 l0.length l0) (_hc0 : l0.length ≤ c0) (h : impl_ThreadOk_2_any.f l0 = some r) :
    Calls Try.prog 86 #[.slice A0 l0.length c0, .func (.func 87) #[] #[]] w fun e w' => e = .returned (.bool r) ∧ Below w.heap.size w w' := by
  have HC := Aside0.mk (impl_ThreadOk_2_idx A0 c0 l0 r w hr0 h)
  clear hr0 h
  go_enter Try.func86, Try.ntmps86
  go_wp2_with (go_at_call 152; refine HC.out.mono ?_; rintro e w' ⟨n, rfl, hn, hb⟩; have HN := Aside0.mk hn; have HB := Aside0.mk hb; clear hn hb)
  go_ret
  exact ⟨by rw [← HN.out]; rfl, HB.out⟩
def impl_ThreadOk_3_any.f (l0 : List S100) (a1 : Int) : Option Bool := anyO (fun x : S100 => impl_ThreadOk_3.f x.f0 x.f1 x.f2 x.f3 a1) l0
set_option maxHeartbeats 4000000 in
set_option maxRecDepth 100000 in
theorem impl_ThreadOk_3_idx (A0 : Option Addr) (c0 : Nat) (l0 : List S100) (g1 : Nat) (a1 : Int) (r : Bool) (w : World) (hr0 : Kd.C k100 w A0 l0.length l0) (hg1 : w.heap[g1]? = some (.cells #[.int .i64 a1] 3 (0, 0))) (h : impl_ThreadOk_3_any.f l0 a1 = some r) :
    Calls Try.prog 153 #[.slice A0 l0.length c0, .func (.func 91) #[] #[.pointer (some ⟨g1, 0, none⟩)]] w fun e w' => ∃ n : Int, e = .returned (.int .i64 n) ∧ decide (n ≥ 0) = r ∧ Below w.heap.size w w' := by
  have huE := Try.underlying100
  have HR0 := Aside0.mk hr0
  have HM : l0.length ≤ 9223372036854775807 := hr0.2.1
  have HG : ∀ W, Below w.heap.size w W → W.heap[g1]? = some (.cells #[.int .i64 a1] 3 (0, 0)) := fun W hW => blk_below hg1 hW
  clear hg1
  clear hr0
  have H0 := Aside0.mk h
  clear h
  have HW := Aside0.mk (Below.refl w.heap.size w)
  go_enter Try.func153, Try.ntmps153
  go_wp2
  go_loopg [5, 8] l0.length (fun gg _ s8 wr => ∃ kk : Nat, kk ≤ l0.length ∧ Aside0 (l0.length - kk ≤ gg) ∧ s8 = .int .i64 kk ∧ Aside0 (anyO (fun x : S100 => impl_ThreadOk_3.f x.f0 x.f1 x.f2 x.f3 a1) (l0.drop kk) = some r) ∧ Aside0 (Below w.heap.size w wr))
  case atStart => exact ⟨0, Nat.zero_le _, ⟨by omega⟩, rfl, H0, HW⟩
  case round =>
    obtain ⟨kk, hkk, HF, rfl, HA, HB⟩ := hrel
    clear H0 HW
    by_cases hlt : kk < l0.length
    · have hltz : (kk : Int) < (l0.length : Int) := by omega
      obtain ⟨ad, e, hx0, hx1, hx2, hx3⟩ := at_T100 HR0.out (kk : Int) (by omega) hltz
      cases e
      replace hx0 := (HB.out.cell (World.block_lt_of_cell? w _ hx0)).trans hx0
      replace hx1 := (HB.out.cell (World.block_lt_of_cell? w _ hx1)).trans hx1
      replace hx2 := (HB.out.cell (World.block_lt_of_cell? w _ hx2)).trans hx2
      replace hx3 := (HB.out.cell (World.block_lt_of_cell? w _ hx3)).trans hx3
      simp only [Int.toNat_natCast] at hx0 hx1 hx2 hx3
      obtain ⟨b, hb, ht, hf⟩ := anyO.cons (z := z100) HA.out hlt
      have hb := Aside0.mk (show impl_ThreadOk_3.f (rd_T100 l0 (kk : Int)).f0 (rd_T100 l0 (kk : Int)).f1 (rd_T100 l0 (kk : Int)).f2 (rd_T100 l0 (kk : Int)).f3 a1 = some b from hb)
      replace ht := Aside0.mk ht
      replace hf := Aside0.mk hf
      clear HA
      cases b with
      | true =>
        have HT := Aside0.mk (ht.out rfl)
        clear ht hf
        go_wp2_with (go_at_call 91; (with_reducible refine (impl_ThreadOk_3_test g1 (rd_T100 l0 (kk : Int)).f0 (rd_T100 l0 (kk : Int)).f1 (rd_T100 l0 (kk : Int)).f2 (rd_T100 l0 (kk : Int)).f3 a1 _ _ (HG _ HB.out) hb.out).mono ?_); rintro e w' ⟨rfl, hb'⟩; have HB' := Aside0.mk (below_step HB.out hb'); clear hb')
        go_ret
        exact ⟨_, rfl, by rw [HT.out]; simp, HB'.out⟩
      | false =>
        have HA := Aside0.mk (hf.out rfl)
        clear ht hf
        go_wp2_with (go_at_call 91; (with_reducible refine (impl_ThreadOk_3_test g1 (rd_T100 l0 (kk : Int)).f0 (rd_T100 l0 (kk : Int)).f1 (rd_T100 l0 (kk : Int)).f2 (rd_T100 l0 (kk : Int)).f3 a1 _ _ (HG _ HB.out) hb.out).mono ?_); rintro e w' ⟨rfl, hb'⟩; have HB' := Aside0.mk (below_step HB.out hb'); clear hb')
        go_roundg (l0.length - (kk + 1))
        case measure => have := HF.out; omega
        case rel => exact ⟨kk + 1, by omega, ⟨by omega⟩, by go_num, HA, HB'⟩
    · have hltz : ¬ (kk : Int) < (l0.length : Int) := by omega
      have hr : r = false := anyO.nil HA.out (by omega)
      subst hr
      go_wp2
      go_ret
      exact ⟨_, rfl, by decide, HB.out⟩
set_option maxHeartbeats 2000000 in
theorem impl_ThreadOk_3_any.calls (A0 : Option Addr) (c0 : Nat) (l0 : List S100) (g1 : Nat) (a1 : Int) (r : Bool) (w : World) (hr0 : Kd.C k100 w A0 l0.length l0) (_hc0 : l0.length ≤ c0) (hg1 : w.heap[g1]? = some (.cells #[.int .i64 a1] 3 (0, 0))) (h : impl_ThreadOk_3_any.f l0 a1 = some r) :
    Calls Try.prog 90 #[.slice A0 l0.length c0, .func (.func 91) #[] #[.pointer (some ⟨g1, 0, none⟩)]] w fun e w' => e = .returned (.bool r) ∧ Below w.heap.size w w' := by
  have HC := Aside0.mk (impl_ThreadOk_3_idx A0 c0 l0 g1 a1 r w hr0 hg1 h)
  clear hr0 hg1 h
  go_enter Try.func90, Try.ntmps90
  go_wp2_with (go_at_call 153; refine HC.out.mono ?_; rintro e w' ⟨n, rfl, hn, hb⟩; have HN := Aside0.mk hn; have HB := Aside0.mk hb; clear hn hb)
  go_ret
  exact ⟨by rw [← HN.out]; rfl, HB.out⟩
def impl_Begin_1_any.f (l0 : List S141) (a1 : Int) : Option Bool := anyO (fun x : S141 => impl_Begin_1.f x.f0 x.f1 x.f2 a1) l0
set_option maxHeartbeats 4000000 in
set_option maxRecDepth 100000 in
theorem impl_Begin_1_idx (A0 : Option Addr) (c0 : Nat) (l0 : List S141) (g1 : Nat) (a1 : Int) (r : Bool) (w : World) (hr0 : Kd.C k141 w A0 l0.length l0) (hg1 : w.heap[g1]? = some (.cells #[.int .i64 a1] 3 (0, 0))) (h : impl_Begin_1_any.f l0 a1 = some r) :
    Calls Try.prog 187 #[.slice A0 l0.length c0, .func (.func 139) #[] #[.pointer (some ⟨g1, 0, none⟩)]] w fun e w' => ∃ n : Int, e = .returned (.int .i64 n) ∧ decide (n ≥ 0) = r ∧ Below w.heap.size w w' := by
  have huE := Try.underlying141
  have HR0 := Aside0.mk hr0
  have HM : l0.length ≤ 9223372036854775807 := hr0.2.1
  have HG : ∀ W, Below w.heap.size w W → W.heap[g1]? = some (.cells #[.int .i64 a1] 3 (0, 0)) := fun W hW => blk_below hg1 hW
  clear hg1
  clear hr0
  have H0 := Aside0.mk h
  clear h
  have HW := Aside0.mk (Below.refl w.heap.size w)
  go_enter Try.func187, Try.ntmps187
  go_wp2
  go_loopg [5, 8] l0.length (fun gg _ s8 wr => ∃ kk : Nat, kk ≤ l0.length ∧ Aside0 (l0.length - kk ≤ gg) ∧ s8 = .int .i64 kk ∧ Aside0 (anyO (fun x : S141 => impl_Begin_1.f x.f0 x.f1 x.f2 a1) (l0.drop kk) = some r) ∧ Aside0 (Below w.heap.size w wr))
  case atStart => exact ⟨0, Nat.zero_le _, ⟨by omega⟩, rfl, H0, HW⟩
  case round =>
    obtain ⟨kk, hkk, HF, rfl, HA, HB⟩ := hrel
    clear H0 HW
    by_cases hlt : kk < l0.length
    · have hltz : (kk : Int) < (l0.length : Int) := by omega
      obtain ⟨ad, e, hx0, hx1, hx2⟩ := at_T141 HR0.out (kk : Int) (by omega) hltz
      cases e
      replace hx0 := (HB.out.cell (World.block_lt_of_cell? w _ hx0)).trans hx0
      replace hx1 := (HB.out.cell (World.block_lt_of_cell? w _ hx1)).trans hx1
      replace hx2 := (HB.out.cell (World.block_lt_of_cell? w _ hx2)).trans hx2
      simp only [Int.toNat_natCast] at hx0 hx1 hx2
      obtain ⟨b, hb, ht, hf⟩ := anyO.cons (z := z141) HA.out hlt
      have hb := Aside0.mk (show impl_Begin_1.f (rd_T141 l0 (kk : Int)).f0 (rd_T141 l0 (kk : Int)).f1 (rd_T141 l0 (kk : Int)).f2 a1 = some b from hb)
      replace ht := Aside0.mk ht
      replace hf := Aside0.mk hf
      clear HA
      cases b with
      | true =>
        have HT := Aside0.mk (ht.out rfl)
        clear ht hf
        go_wp2_with (go_at_call 139; (with_reducible refine (impl_Begin_1_test g1 (rd_T141 l0 (kk : Int)).f0 (rd_T141 l0 (kk : Int)).f1 (rd_T141 l0 (kk : Int)).f2 a1 _ _ (HG _ HB.out) hb.out).mono ?_); rintro e w' ⟨rfl, hb'⟩; have HB' := Aside0.mk (below_step HB.out hb'); clear hb')
        go_ret
        exact ⟨_, rfl, by rw [HT.out]; simp, HB'.out⟩
      | false =>
        have HA := Aside0.mk (hf.out rfl)
        clear ht hf
        go_wp2_with (go_at_call 139; (with_reducible refine (impl_Begin_1_test g1 (rd_T141 l0 (kk : Int)).f0 (rd_T141 l0 (kk : Int)).f1 (rd_T141 l0 (kk : Int)).f2 a1 _ _ (HG _ HB.out) hb.out).mono ?_); rintro e w' ⟨rfl, hb'⟩; have HB' := Aside0.mk (below_step HB.out hb'); clear hb')
        go_roundg (l0.length - (kk + 1))
        case measure => have := HF.out; omega
        case rel => exact ⟨kk + 1, by omega, ⟨by omega⟩, by go_num, HA, HB'⟩
    · have hltz : ¬ (kk : Int) < (l0.length : Int) := by omega
      have hr : r = false := anyO.nil HA.out (by omega)
      subst hr
      go_wp2
      go_ret
      exact ⟨_, rfl, by decide, HB.out⟩
set_option maxHeartbeats 2000000 in
theorem impl_Begin_1_any.calls (A0 : Option Addr) (c0 : Nat) (l0 : List S141) (g1 : Nat) (a1 : Int) (r : Bool) (w : World) (hr0 : Kd.C k141 w A0 l0.length l0) (_hc0 : l0.length ≤ c0) (hg1 : w.heap[g1]? = some (.cells #[.int .i64 a1] 3 (0, 0))) (h : impl_Begin_1_any.f l0 a1 = some r) :
    Calls Try.prog 138 #[.slice A0 l0.length c0, .func (.func 139) #[] #[.pointer (some ⟨g1, 0, none⟩)]] w fun e w' => e = .returned (.bool r) ∧ Below w.heap.size w w' := by
  have HC := Aside0.mk (impl_Begin_1_idx A0 c0 l0 g1 a1 r w hr0 hg1 h)
  clear hr0 hg1 h
  go_enter Try.func138, Try.ntmps138
  go_wp2_with (go_at_call 187; refine HC.out.mono ?_; rintro e w' ⟨n, rfl, hn, hb⟩; have HN := Aside0.mk hn; have HB := Aside0.mk hb; clear hn hb)
  go_ret
  exact ⟨by rw [← HN.out]; rfl, HB.out⟩
end Go.Proofs.Ytopikhjcbcpiaaa.Q
end
section
namespace Go.Proofs.Ytopikhjcbcpiaaa.Q
open Go.RowKit Go.Proofs.YtopikhjcbcpiaaaW.PrintWords Go.Proofs.YtopikhjcbcpiaaaX
def fitE (x : S145) : Prop := x.f2.length ≤ 1048576 ∧ x.f3.f1.length ≤ 1048576
theorem rd145 {l : List S145} {i : Nat} (h : i < l.length) : rd_T145 l (i : Int) = l[i] := by
  show l.getD (i : Int).toNat z145 = l[i]
  rw [Int.toNat_natCast]; simp [List.getD_eq_getElem?_getD, List.getElem?_eq_getElem h]
theorem ev_eqResD (c : Int) (l : List Int) (h : l.length ≤ 1048576) : Ev (fun k => laws_eqRes.f k c l c l) true := by
  unfold laws_eqRes.f
  exact ev_pos rfl (Ev.bind (f := fun _ t => if t = true then some true else some false) (ev_eqIntS l h) (ev_of fun k => by simp))
theorem ev_eqDesc (x : S145) (h : fitE x) : Ev (fun k => laws_eqDesc.f k x.f0 x.f1 x.f2 x.f3.f0 x.f3.f1 x.f0 x.f1 x.f2 x.f3.f0 x.f3.f1) true := by
  unfold laws_eqDesc.f
  refine ev_pos rfl (ev_pos rfl (Ev.bind (ev_eqEntryS x.f2 h.1) (ev_pos rfl (Ev.bind (ev_eqResD _ _ h.2) (ev_pos rfl (Ev.now _))))))
theorem ev_eqDescS (l : List S145) (hl : l.length ≤ 1048576) (hf : ∀ x ∈ l, fitE x) : Ev (fun k => laws_eqDescS.f k l l) true := by
  unfold laws_eqDescS.f
  refine ev_pos rfl ?_
  refine ev_down (g := fun k i => laws_eqDescS.l0 k l l i) (R := fun _ => true) (n := l.length) ?_ 0 (by omega)
  intro i hi h
  by_cases hlt : i < l.length
  · have he := ev_eqDesc l[i] (hf _ (List.getElem_mem hlt))
    refine Ev.step (f := fun k => (laws_eqDesc.f k l[i].f0 l[i].f1 l[i].f2 l[i].f3.f0 l[i].f3.f1 l[i].f0 l[i].f1 l[i].f2 l[i].f3.f0 l[i].f3.f1).bind fun t => if t = true then laws_eqDescS.l0 k l l ((i + 1 : Nat) : Int) else some false) (fun k => ?_) (Ev.bind he (ev_pos rfl (h hlt)))
    simp only [laws_eqDescS.l0, rd145 hlt]
    rw [if_pos (by omega), if_pos (by omega), if_pos (by omega), wrap_succ hlt (by omega)]
  · refine ev_succ (fun k => ?_)
    simp only [laws_eqDescS.l0]
    rw [if_neg (by omega)]
end Go.Proofs.Ytopikhjcbcpiaaa.Q
end
namespace Go.Proofs.Ytopikhjcbcpiaaa.Q
open Go.RowKit Go.Proofs.YtopikhjcbcpiaaaW.PrintWords Go.Proofs.YtopikhjcbcpiaaaW.PrintLast Go.Proofs.YtopikhjcbcpiaaaW.PrintMore
attribute [local go_sem] max2_int min2_int max_two min_two max_three min_three max_four min_four   -- for this text's walks alone
set_option linter.unusedVariables false
set_option linter.unusedSimpArgs false
def laws_eqMem.f (k : Nat) (l0_0 : List (S141)) (l0_1 : List (S145)) (l1_0 : List (S141)) (l1_1 : List (S145)) : Option (Bool) := (laws_eqWordS.f k l0_0 l1_0).bind fun t1140 => (if t1140 = true then ((laws_eqDescS.f k l0_1 l1_1).bind fun t1141 => (if t1141 = true then (some true) else (some false))) else (some false))
set_option maxHeartbeats 8000000 in
set_option maxRecDepth 100000 in
theorem laws_eqMem.calls (k : Nat) (A0_0 : Option Addr) (c0_0 : Nat) (l0_0 : List (S141)) (A0_1 : Option Addr) (c0_1 : Nat) (l0_1 : List (S145)) (A1_0 : Option Addr) (c1_0 : Nat) (l1_0 : List (S141)) (A1_1 : Option Addr) (c1_1 : Nat) (l1_1 : List (S145)) (r : Bool) (w : World) (hr0_0 : Kd.C k141 w A0_0 l0_0.length l0_0) (hc0_0 : l0_0.length ≤ c0_0) (hr0_1 : Kd.C k145 w A0_1 l0_1.length l0_1) (hc0_1 : l0_1.length ≤ c0_1) (hr1_0 : Kd.C k141 w A1_0 l1_0.length l1_0) (hc1_0 : l1_0.length ≤ c1_0) (hr1_1 : Kd.C k145 w A1_1 l1_1.length l1_1) (hc1_1 : l1_1.length ≤ c1_1) (h : laws_eqMem.f k l0_0 l0_1 l1_0 l1_1 = some r) :
  Calls Try.prog 58 #[.agg #[.slice A0_0 l0_0.length c0_0, .slice A0_1 l0_1.length c0_1], .agg #[.slice A1_0 l1_0.length c1_0, .slice A1_1 l1_1.length c1_1]] w fun e w' => e = .returned (.bool r) ∧ Below w.heap.size w w' := by
 have hu88 := Try.underlying88
 have HR0_0 := Aside0.mk hr0_0
 have HC0_0 := Aside0.mk hc0_0
 clear hr0_0 hc0_0
 have HR0_1 := Aside0.mk hr0_1
 have HC0_1 := Aside0.mk hc0_1
 clear hr0_1 hc0_1
 have HR1_0 := Aside0.mk hr1_0
 have HC1_0 := Aside0.mk hc1_0
 clear hr1_0 hc1_0
 have HR1_1 := Aside0.mk hr1_1
 have HC1_1 := Aside0.mk hc1_1
 clear hr1_1 hc1_1
 have HB := Aside0.mk (Below.refl w.heap.size w)
 have H := h
 clear h
 unfold laws_eqMem.f at H
 obtain ⟨t1140, A3, H⟩ := bn H
 try dsimp only at H
 cases t1140
 case false =>
  replace H := ipf H
  obtain rfl := oin H
  go_enter Try.func58, Try.ntmps58
  go_wp2_with (first | ((with_reducible refine gq 2 rfl ?_); refine bx0 HB (N := 2) (t := 88) ?_; clear HB; intro gb1138 w25 BK1138 GE1138 HB) | ((with_reducible refine gq 3 rfl ?_); refine bx1 HB BK1138 (N := 3) (t := 88) ?_; clear HB BK1138; intro gb1139 w26 BK1139 GE1139 HB NB1138_1139 NB1139_1138 BK1138; have hnb27 := NB1138_1139.out; have hnc27 := NB1139_1138.out; have hz28 := cs2_ BK1138; have hz29 := cs2_ BK1139) | ((with_reducible refine gf 26 rfl ?_); refine gL 9 Try.func26 #[.slice A0_0 l0_0.length c0_0, .slice A1_0 l1_0.length c1_0] ?_; (with_reducible refine (laws_eqWordS.calls k _ _ l0_0 _ _ l1_0 false _ (kc HR0_0 HB) HC0_0.out (kc HR1_0 HB) HC1_0.out A3.out).mono ?_); rintro e w30 ⟨rfl, hb⟩; refine ⟨_, rfl, ?_⟩; replace BK1138 := bb BK1138 hb; replace BK1139 := bb BK1139 hb; replace HB := bs HB hb; (try clear hb)))
  go_ret
  exact ⟨er, tb HB⟩
 replace H := ipt H
 obtain ⟨t1141, A5, H⟩ := bn H
 try dsimp only at H
 cases t1141
 case true =>
  replace H := ipt H
  obtain rfl := oin H
  go_enter Try.func58, Try.ntmps58
  go_wp2_with (first | ((with_reducible refine gq 2 rfl ?_); refine bx0 HB (N := 2) (t := 88) ?_; clear HB; intro gb1138 w7 BK1138 GE1138 HB) | ((with_reducible refine gq 3 rfl ?_); refine bx1 HB BK1138 (N := 3) (t := 88) ?_; clear HB BK1138; intro gb1139 w8 BK1139 GE1139 HB NB1138_1139 NB1139_1138 BK1138; have hnb9 := NB1138_1139.out; have hnc9 := NB1139_1138.out; have hz10 := cs2_ BK1138; have hz11 := cs2_ BK1139) | ((with_reducible refine gf 26 rfl ?_); refine gL 9 Try.func26 #[.slice A0_0 l0_0.length c0_0, .slice A1_0 l1_0.length c1_0] ?_; (with_reducible refine (laws_eqWordS.calls k _ _ l0_0 _ _ l1_0 true _ (kc HR0_0 HB) HC0_0.out (kc HR1_0 HB) HC1_0.out A3.out).mono ?_); rintro e w12 ⟨rfl, hb⟩; refine ⟨_, rfl, ?_⟩; replace BK1138 := bb BK1138 hb; replace BK1139 := bb BK1139 hb; replace HB := bs HB hb; (try clear hb); have hz13 := cs2_ BK1138; have hz14 := cs2_ BK1139) | ((with_reducible refine gf 27 rfl ?_); refine gL 15 Try.func27 #[.slice A0_1 l0_1.length c0_1, .slice A1_1 l1_1.length c1_1] ?_; (with_reducible refine (laws_eqDescS.calls k _ _ l0_1 _ _ l1_1 true _ (kc HR0_1 HB) HC0_1.out (kc HR1_1 HB) HC1_1.out A5.out).mono ?_); rintro e w15 ⟨rfl, hb⟩; refine ⟨_, rfl, ?_⟩; replace BK1138 := bb BK1138 hb; replace BK1139 := bb BK1139 hb; replace HB := bs HB hb; (try clear hb)))
  go_ret
  exact ⟨er, tb HB⟩
 replace H := ipf H
 obtain rfl := oin H
 go_enter Try.func58, Try.ntmps58
 go_wp2_with (first | ((with_reducible refine gq 2 rfl ?_); refine bx0 HB (N := 2) (t := 88) ?_; clear HB; intro gb1138 w16 BK1138 GE1138 HB) | ((with_reducible refine gq 3 rfl ?_); refine bx1 HB BK1138 (N := 3) (t := 88) ?_; clear HB BK1138; intro gb1139 w17 BK1139 GE1139 HB NB1138_1139 NB1139_1138 BK1138; have hnb18 := NB1138_1139.out; have hnc18 := NB1139_1138.out; have hz19 := cs2_ BK1138; have hz20 := cs2_ BK1139) | ((with_reducible refine gf 26 rfl ?_); refine gL 9 Try.func26 #[.slice A0_0 l0_0.length c0_0, .slice A1_0 l1_0.length c1_0] ?_; (with_reducible refine (laws_eqWordS.calls k _ _ l0_0 _ _ l1_0 true _ (kc HR0_0 HB) HC0_0.out (kc HR1_0 HB) HC1_0.out A3.out).mono ?_); rintro e w21 ⟨rfl, hb⟩; refine ⟨_, rfl, ?_⟩; replace BK1138 := bb BK1138 hb; replace BK1139 := bb BK1139 hb; replace HB := bs HB hb; (try clear hb); have hz22 := cs2_ BK1138; have hz23 := cs2_ BK1139) | ((with_reducible refine gf 27 rfl ?_); refine gL 15 Try.func27 #[.slice A0_1 l0_1.length c0_1, .slice A1_1 l1_1.length c1_1] ?_; (with_reducible refine (laws_eqDescS.calls k _ _ l0_1 _ _ l1_1 false _ (kc HR0_1 HB) HC0_1.out (kc HR1_1 HB) HC1_1.out A5.out).mono ?_); rintro e w24 ⟨rfl, hb⟩; refine ⟨_, rfl, ?_⟩; replace BK1138 := bb BK1138 hb; replace BK1139 := bb BK1139 hb; replace HB := bs HB hb; (try clear hb)))
 go_ret
 exact ⟨er, tb HB⟩
end Go.Proofs.Ytopikhjcbcpiaaa.Q
