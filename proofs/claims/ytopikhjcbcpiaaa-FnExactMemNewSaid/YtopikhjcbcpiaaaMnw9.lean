/- Part 9 of the steps by which the law is shown: what each function of the program, of the reference and of the law computes. No condition. -/
import Derived.Test.YtopikhjcbcpiaaaMnw0
import Derived.Test.YtopikhjcbcpiaaaMnw2
import Derived.Test.YtopikhjcbcpiaaaMnw3
import Derived.Test.YtopikhjcbcpiaaaMnw5
import Derived.Test.YtopikhjcbcpiaaaMnw7
import Derived.Test.YtopikhjcbcpiaaaMnw8
namespace Go.Proofs.Ytopikhjcbcpiaaa.Q
open Go.RowKit Go.Proofs.YtopikhjcbcpiaaaW.PrintWords Go.Proofs.YtopikhjcbcpiaaaW.PrintLast Go.Proofs.YtopikhjcbcpiaaaW.PrintMore
attribute [local go_sem] max2_int min2_int max_two min_two max_three min_three max_four min_four   -- for this text's walks alone
set_option linter.unusedVariables false
set_option linter.unusedSimpArgs false
def impl_WordsOf.l0 : Nat → List Int → List Int → Int → Int → List Int → Int → Option (List Int)
  | 0, _, _, _, _, _, _ => none
  | k + 1, x3, x15, x16, x17, x1080000, x1080001 => if x17 < x16 then (if 0 ≤ x17 then (if x17 < (x15.length : Int) then (if (rd x15 x17) = 0 then (impl_WordsOf.l0 k x3 x15 x16 (wrap64 (x17 + 1)) x1080000 x1080001) else ((impl_OwnerAt.f (rd x15 x17)).bind fun t1087 => (if 0 ≤ t1087 then (if t1087 < (x3.length : Int) then ((some (x3.set (t1087 : Int).toNat (wrap64 (x17 + 1)) : List Int)).bind fun y1088 => ((impl_ClassOf.f (rd x15 x17)).bind fun t1089 => ((impl_CountAt.f t1089).bind fun t1090 => (if 0 ≤ t1090 then (if t1090 < (x3.length : Int) then ((some (y1088.set (t1090 : Int).toNat (wrap64 ((rd y1088 t1090) + 1)) : List Int)).bind fun y1092 => (if x17 < (wrap64 (x1080001 - 1)) then ((impl_ViaAt.f (rd x15 x17)).bind fun t1093 => (if 0 ≤ t1093 then (if t1093 < (x3.length : Int) then (impl_WordsOf.l0 k (y1092.set (t1093 : Int).toNat (wrap64 (x17 + 1))) x15 x16 (wrap64 (x17 + 1)) x1080000 x1080001) else (none)) else (none))) else (impl_WordsOf.l0 k y1092 x15 x16 (wrap64 (x17 + 1)) x1080000 x1080001))) else (none)) else (none))))) else (none)) else (none)))) else (none)) else (none)) else ((impl_StateAt.f).bind fun t1084 => (if 0 ≤ t1084 then (if t1084 < (x3.length : Int) then (some (x3.set (t1084 : Int).toNat x1080001)) else (none)) else (none)))
def impl_WordsOf.f (k : Nat) (l0_0 : List Int) (a0_1 : Int) : Option (List Int) := (impl_RowsOk.f k l0_0 a0_1).bind fun t1080 => (if t1080 = true then (if 20 ≤ 35184372088832 then (impl_WordsOf.l0 k (cpy (List.replicate 20 0) l0_0) l0_0 (l0_0.length : Int) 0 l0_0 a0_1) else (none)) else (some ([] : List Int)))
theorem impl_WordsOf.mono_l : ∀ k, (∀ y0 y1 y2 y3 y4 y5, LeO (impl_WordsOf.l0 k y0 y1 y2 y3 y4 y5) (impl_WordsOf.l0 (k + 1) y0 y1 y2 y3 y4 y5))
  | 0 => fun _ _ _ _ _ _ r h => by simp [impl_WordsOf.l0] at h
  | k + 1 => by
    have ih0 := impl_WordsOf.mono_l k
    · intro y0 y1 y2 y3 y4 y5
      unfold impl_WordsOf.l0
      repeat' first
      | (with_reducible exact ih0 _ _ _ _ _ _)
      | (with_reducible exact impl_RowsOk.mono _ _ _)
      | (with_reducible exact LeO.refl _)
      | (with_reducible exact LeO.none _)
      | (with_reducible refine LeO.ite ?_ ?_)
      | (with_reducible refine LeO.bind ?_ (fun _ => ?_))
      | exact ih0 _ _ _ _ _ _
      | exact impl_RowsOk.mono _ _ _
      | exact LeO.none _
      | refine LeO.ite ?_ ?_
      | refine LeO.bind ?_ (fun _ => ?_)
theorem impl_WordsOf.mono : ∀ a0 a1 k, LeO (impl_WordsOf.f k a0 a1) (impl_WordsOf.f (k + 1) a0 a1) := by
  intro a0 a1 k
  have ih0 := impl_WordsOf.mono_l k
  unfold impl_WordsOf.f
  repeat' first
      | (with_reducible exact ih0 _ _ _ _ _ _)
      | (with_reducible exact impl_RowsOk.mono _ _ _)
      | (with_reducible exact LeO.refl _)
      | (with_reducible exact LeO.none _)
      | (with_reducible refine LeO.ite ?_ ?_)
      | (with_reducible refine LeO.bind ?_ (fun _ => ?_))
      | exact ih0 _ _ _ _ _ _
      | exact impl_RowsOk.mono _ _ _
      | exact LeO.none _
      | refine LeO.ite ?_ ?_
      | refine LeO.bind ?_ (fun _ => ?_)
set_option maxHeartbeats 8000000 in
set_option maxRecDepth 100000 in
theorem impl_WordsOf.calls (k : Nat) (A0_0 : Option Addr) (c0_0 : Nat) (l0_0 : List Int) (a0_1 : Int) (r : List Int) (w : World) (hr0_0 : Kd.C (Kd.int .i64) w A0_0 l0_0.length l0_0) (hc0_0 : l0_0.length ≤ c0_0) (h : impl_WordsOf.f k l0_0 a0_1 = some r) :
    Calls Try.prog 129 #[.agg #[.slice A0_0 l0_0.length c0_0, .int .i64 a0_1]] w fun e w' => ∃ v0_ : Value, e = .returned (v0_) ∧ Kd.R (Kd.int .i64) 3 w' w.heap.size (fun _ => True) v0_ r ∧ Below w.heap.size w w' := by
  have hu65 := Try.underlying65
  have HR0_0 := Aside0.mk hr0_0
  have HC0_0 := Aside0.mk hc0_0
  clear hr0_0 hc0_0
  have HB := Aside0.mk (Below.refl w.heap.size w)
  have H : ((impl_RowsOk.f k l0_0 a0_1).bind fun t1080 => (if t1080 = true then (if 20 ≤ 35184372088832 then (impl_WordsOf.l0 k (cpy (List.replicate 20 0) l0_0) l0_0 (l0_0.length : Int) 0 l0_0 a0_1) else (none)) else (some ([] : List Int)))) = some r := h
  clear h
  replace H := Option.bind_eq_some_iff.mp H
  obtain ⟨t1080, A20, H⟩ := H
  replace H : (if t1080 = true then (if 20 ≤ 35184372088832 then (impl_WordsOf.l0 k (cpy (List.replicate 20 0) l0_0) l0_0 (l0_0.length : Int) 0 l0_0 a0_1) else (none)) else (some ([] : List Int))) = some r := H
  have A2 := Aside0.mk A20
  clear A20
  by_cases c3 : t1080 = true
  · subst c3
    have H1 : (if 20 ≤ 35184372088832 then (impl_WordsOf.l0 k (cpy (List.replicate 20 0) l0_0) l0_0 (l0_0.length : Int) 0 l0_0 a0_1) else (none)) = some r := by rw [if_pos rfl] at H; exact H
    clear H
    have H := H1
    clear H1
    by_cases c4 : 20 ≤ 35184372088832
    · rw [if_pos c4] at H
      have c4b0 := eq_true c4
      have c4b1 : decide (20 ≤ 35184372088832) = true := decide_eq_true c4
      clear c4
      obtain ⟨y1081, hy1081⟩ : ∃ y_ : List Int, y_ = (List.replicate 20 0) := ⟨_, rfl⟩
      replace H : (impl_WordsOf.l0 k (cpy y1081 l0_0) l0_0 (l0_0.length : Int) 0 l0_0 a0_1) = some r := by first | (rw [hy1081]; with_reducible exact H) | (have H2_ := (Option.bind_some _ _).symm.trans H; rw [hy1081]; with_reducible exact H2_) | (have H2_ := (Option.bind_some _ _).symm.trans H; with_reducible exact H2_) | with_reducible exact H | (rw [hy1081]; exact H) | exact H
      have Ny1081 := Aside0.mk hy1081
      clear hy1081
      have H' := Aside0.mk H
      clear H
      go_enter Try.func129, Try.ntmps129
      go_wp2_with (first | ((with_reducible refine gate_dst (N := 1) rfl ?_); refine box_event ?hg (N := 1) ?hd (cs := #[.slice A0_0 l0_0.length c0_0, .int .i64 a0_1]) (t := 65) ?hr ?_; (case hd => rfl); (case hg => rfl); (case hr => first | (go_simp; done) | (go_simp; rfl)); intro gb1079 hg w5 hbox hb; have n0_ := Aside0.mk (below_step (by repeat (first | (with_reducible first | exact HB.out | apply below_alloc | apply pw_below_drewN | apply below_drew1) | exact HB.out)) hb); have n1_ := Aside0.mk (hbox); have n2_ := Aside0.mk ((by rw [hg]; exact (below_size (by repeat (first | (with_reducible first | exact HB.out | apply below_alloc | apply pw_below_drewN | apply below_drew1) | exact HB.out))) : w.heap.size ≤ gb1079)); have n3_ := Aside0.mk ((by rw [hg]; exact (below_size (by repeat (first | (with_reducible first | exact HB.out | apply below_alloc | apply pw_below_drewN | apply below_drew1) | exact HB.out))) : w.heap.size ≤ gb1079)); clear HB; have HB := n0_; have BK1079 := n1_; have GW1079 := n2_; have GE1079 := n3_; clear n0_ n1_ n2_ n3_; clear hb hbox hg; have hcz6_0 : w5.cell? ⟨gb1079, 0, none⟩ = some (.slice A0_0 l0_0.length c0_0) := (blk_cell BK1079.out 0).trans rfl; have hcz6_1 : w5.cell? ⟨gb1079, 1, none⟩ = some (.int .i64 a0_1) := (blk_cell BK1079.out 1).trans rfl; have hfz6_0 := blk_frozen BK1079.out 0; have hfz6_1 := blk_frozen BK1079.out 1) | ((with_reducible refine gate_callee (f := 55) rfl ?_); refine goesL_ (some 7) rfl rfl Try.func55 (by kernel_rfl) rfl #[.agg #[.slice A0_0 l0_0.length c0_0, .int .i64 a0_1]] rfl (by (try simp only [List.map_toArray, List.map_cons, List.map_nil]); first | done | rfl | (simp only [List.length_drop, List.length_take]; rfl)) ?_; (with_reducible refine (impl_RowsOk.calls k _ _ l0_0 a0_1 true _ ?side1 ?side2 A2.out).mono ?_); (case side1 => repeat (first | exact (Kd.C_below HR0_0.out HB.out) | (with_reducible refine Kd.C_alloc ?_ _) | (with_reducible refine Kd.C_drewN ?_ _) | (with_reducible refine Kd.C_drew ?_))); (case side2 => exact HC0_0.out); rintro e w7 ⟨rfl, hb⟩; refine ⟨_, rfl, ?_⟩; have n0_ := Aside0.mk (blk_below (g := gb1079) (o := .cells #[.slice A0_0 l0_0.length c0_0, .int .i64 a0_1] 65 (0, 0)) (by (with_reducible repeat (first | refine blk_drewN ?_ _ | refine blk_drew ?_ | refine blk_alloc ?_ _)); exact BK1079.out) hb); have n1_ := Aside0.mk (below_step (by repeat (first | (with_reducible first | exact HB.out | apply below_alloc | apply pw_below_drewN | apply below_drew1 | refine below_set ?_ GE1079.out) | exact HB.out)) hb); clear BK1079; clear HB; have BK1079 := n0_; have HB := n1_; clear n0_ n1_; (try clear hb); (try clear hb2); (try clear hk); (try clear hi)) | ((with_reducible refine gate_dst (N := 9) rfl ?_); refine Kd.R_make (Kd.int .i64) _ 3 rfl (N := 9) rfl 22 _ _ rfl 20 rfl rfl Try.underlying22 (.int .i64 0) 8 info3 rfl (by decide) (by omega) 0 (ok := fun _ => True) (okp := fun _ => True) rfl (fun _ hk => hk) trivial (by omega) (by omega) (Below.refl _ _) (Nat.le_refl _) ?_; intro v1082 w8 ho9 hb hg_ hnew_; clear hg_ hnew_; (first | rw [← Ny1081.out] at ho9 | (simp only [Int.reduceToNat] at ho9; rw [← Ny1081.out] at ho9)); have n0_ := Aside0.mk (Kd.R_lower ho9 (below_size (by repeat (first | (with_reducible first | exact HB.out | apply below_alloc | apply pw_below_drewN | apply below_drew1 | refine below_set ?_ GE1079.out) | exact HB.out)))); have n1_ := Aside0.mk (blk_below (g := gb1079) (o := .cells #[.slice A0_0 l0_0.length c0_0, .int .i64 a0_1] 65 (0, 0)) (by (with_reducible repeat (first | refine blk_drewN ?_ _ | refine blk_drew ?_ | refine blk_alloc ?_ _)); exact BK1079.out) hb); have n2_ := Aside0.mk (below_step (by repeat (first | (with_reducible first | exact HB.out | apply below_alloc | apply pw_below_drewN | apply below_drew1 | refine below_set ?_ GE1079.out) | exact HB.out)) hb); clear BK1079; clear HB; have HO1083 := n0_; have BK1079 := n1_; have HB := n2_; clear n0_ n1_ n2_; clear hb ho9; have hcz10_0 : w8.cell? ⟨gb1079, 0, none⟩ = some (.slice A0_0 l0_0.length c0_0) := (blk_cell BK1079.out 0).trans rfl; have hcz10_1 : w8.cell? ⟨gb1079, 1, none⟩ = some (.int .i64 a0_1) := (blk_cell BK1079.out 1).trans rfl; have hfz10_0 := blk_frozen BK1079.out 0; have hfz10_1 := blk_frozen BK1079.out 1))
      obtain ⟨vc_, wc_, hc_, ho_, hg_⟩ := run_copyv (P := Try.prog) (m := l0_0.length) (c2 := c0_0) 22 3 3 Try.underlying22 (by kernel_rfl) HO1083.out (by rw [Ny1081.out]; simp) (Kd.C_below HR0_0.out HB.out)
      rw [hc_]
      clear hc_
      have n0_ := Aside0.mk ho_
      have n1_ := Aside0.mk (blk_grown (by (with_reducible repeat (first | refine blk_drewN ?_ _ | refine blk_drew ?_ | refine blk_alloc ?_ _)); exact BK1079.out) hg_ (Kd.R_ne HO1083.out BK1079.out (by decide)))
      have n2_ := Aside0.mk (HB.out.grown hg_ (below_size HB.out) (fun k hk => Kd.R_base HO1083.out k hk))
      clear HO1083
      clear BK1079
      clear HB
      have HO1083 := n0_
      have BK1079 := n1_
      have HB := n2_
      clear n0_ n1_ n2_ ho_ hg_
      have hcw_0 : wc_.cell? ⟨gb1079, 0, none⟩ = some (.slice A0_0 l0_0.length c0_0) := (blk_cell BK1079.out 0).trans rfl
      have hcw_1 : wc_.cell? ⟨gb1079, 1, none⟩ = some (.int .i64 a0_1) := (blk_cell BK1079.out 1).trans rfl
      go_wp2
      go_loopg [17] k (fun kq v17 w' => ∃ (x3_1 : List Int) (x17_1 : Int), v17 = .int .i64 x17_1 ∧ Aside0 (impl_WordsOf.l0 kq x3_1 l0_0 (l0_0.length : Int) x17_1 l0_0 a0_1 = some r) ∧ Aside0 (kq ≤ k) ∧ Aside0 (Kd.R (Kd.int .i64) 3 w' w.heap.size (fun _ => True) v1082 x3_1) ∧ Aside0 (w'.heap[gb1079]? = some (.cells #[(.slice A0_0 l0_0.length c0_0), .int .i64 a0_1] 65 (0, 0))) ∧ Aside0 (Below w.heap.size w w'))
      case atStart => exact ⟨(cpy y1081 l0_0), (0), (by first | rfl | (simp; done) | (simp [*]; done)), H', ⟨Nat.le_refl _⟩, ⟨by (with_reducible repeat (first | apply Kd.R_alloc | apply Kd.R_drewN | apply Kd.R_drew)); exact HO1083.out⟩, ⟨by (with_reducible repeat (first | refine blk_drewN ?_ _ | refine blk_drew ?_ | refine blk_alloc ?_ _)); exact BK1079.out⟩, ⟨by repeat (first | (with_reducible first | exact HB.out | apply below_alloc | apply pw_below_drewN | apply below_drew1 | refine below_set ?_ GE1079.out) | exact HB.out)⟩⟩
      case round =>
        clear H'
        try clear c1
        try clear p2
        try clear c3
        try clear c4
        try clear c4b0
        try clear c4b1
        try clear c5
        try clear hcz10_0
        try clear hcz10_1
        try clear hcz6_0
        try clear hcz6_1
        try clear hfz10_0
        try clear hfz10_1
        try clear hfz6_0
        try clear hfz6_1
        obtain ⟨x3_1, x17_1, rfl, HA, HK1, HO_3, BK1079, HB⟩ := hrel
        cases gk with
        | zero => exact absurd HA.out (by simp [impl_WordsOf.l0])
        | succ k1 =>
          have H := HA.out
          clear HA
          simp only [impl_WordsOf.l0] at H
          by_cases c11 : x17_1 < (l0_0.length : Int)
          · rw [if_pos c11] at H
            have c11b0 : decide (x17_1 < (l0_0.length : Int)) = true := decide_eq_true c11
            clear c11
            by_cases c12 : 0 ≤ x17_1
            · rw [if_pos c12] at H
              have c12b0 : decide (0 ≤ x17_1) = true := decide_eq_true c12
              clear c12
              by_cases c13 : x17_1 < (l0_0.length : Int)
              · rw [if_pos c13] at H
                have c13b0 : decide (x17_1 < (l0_0.length : Int)) = true := decide_eq_true c13
                clear c13
                by_cases c14 : (rd l0_0 x17_1) = 0
                · rw [if_pos c14] at H
                  have c14b0 : ((rd l0_0 x17_1) == 0) = true := beq_iff_eq.mpr c14
                  have c14b1 : ((rd l0_0 x17_1) != 0) = false := bne_eq_false_iff_eq.mpr c14
                  clear c14
                  have H' := Aside0.mk H
                  clear H
                  have p1086 : 0 ≤ (x17_1 : Int) := of_decide_eq_true (by first | (with_reducible assumption) | assumption)
                  have q1086 : x17_1 < (l0_0.length : Int) := of_decide_eq_true (by first | (with_reducible assumption) | assumption)
                  obtain ⟨ad1086, e1086, hx1086_0⟩ := Kd.at_int HR0_0.out x17_1 p1086 q1086
                  cases e1086
                  replace hx1086_0 := (HB.out.cell (World.block_lt_of_cell? w _ hx1086_0)).trans hx1086_0
                  replace p1086 := eq_true p1086
                  replace q1086 := eq_true q1086
                  go_wp2
                  go_roundg k1
                  case measure => have := HK1.out; omega
                  case rel => exact ⟨(x3_1), (wrap64 (x17_1 + 1)), (by first | rfl | (simp; done) | (simp [*]; done)), H', ⟨by have := HK1.out; omega⟩, ⟨by (with_reducible repeat (first | apply Kd.R_alloc | apply Kd.R_drewN | apply Kd.R_drew)); exact HO_3.out⟩, ⟨by (with_reducible repeat (first | refine blk_drewN ?_ _ | refine blk_drew ?_ | refine blk_alloc ?_ _)); exact BK1079.out⟩, ⟨by repeat (first | (with_reducible first | exact HB.out | apply below_alloc | apply pw_below_drewN | apply below_drew1 | refine below_set ?_ GE1079.out) | exact HB.out)⟩⟩
                · rw [if_neg c14] at H
                  have c14b0 : ((rd l0_0 x17_1) == 0) = false := beq_eq_false_iff_ne.mpr c14
                  have c14b1 : ((rd l0_0 x17_1) != 0) = true := bne_iff_ne.mpr c14
                  replace H := Option.bind_eq_some_iff.mp H
                  obtain ⟨t1087, A150, H⟩ := H
                  replace H : (if 0 ≤ t1087 then (if t1087 < (x3_1.length : Int) then ((some (x3_1.set (t1087 : Int).toNat (wrap64 (x17_1 + 1)) : List Int)).bind fun y1088 => ((impl_ClassOf.f (rd l0_0 x17_1)).bind fun t1089 => ((impl_CountAt.f t1089).bind fun t1090 => (if 0 ≤ t1090 then (if t1090 < (x3_1.length : Int) then ((some (y1088.set (t1090 : Int).toNat (wrap64 ((rd y1088 t1090) + 1)) : List Int)).bind fun y1092 => (if x17_1 < (wrap64 (a0_1 - 1)) then ((impl_ViaAt.f (rd l0_0 x17_1)).bind fun t1093 => (if 0 ≤ t1093 then (if t1093 < (x3_1.length : Int) then (impl_WordsOf.l0 k1 (y1092.set (t1093 : Int).toNat (wrap64 (x17_1 + 1))) l0_0 (l0_0.length : Int) (wrap64 (x17_1 + 1)) l0_0 a0_1) else (none)) else (none))) else (impl_WordsOf.l0 k1 y1092 l0_0 (l0_0.length : Int) (wrap64 (x17_1 + 1)) l0_0 a0_1))) else (none)) else (none))))) else (none)) else (none)) = some r := H
                  have A15 := Aside0.mk A150
                  clear A150
                  by_cases c16 : 0 ≤ t1087
                  · rw [if_pos c16] at H
                    have c16b0 : decide (0 ≤ t1087) = true := decide_eq_true c16
                    clear c16
                    by_cases c17 : t1087 < (x3_1.length : Int)
                    · rw [if_pos c17] at H
                      have c17b0 : decide (t1087 < (x3_1.length : Int)) = true := decide_eq_true c17
                      clear c17
                      obtain ⟨y1088, hy1088⟩ : ∃ y_ : List Int, y_ = (x3_1.set (t1087 : Int).toNat (wrap64 (x17_1 + 1))) := ⟨_, rfl⟩
                      replace H : ((impl_ClassOf.f (rd l0_0 x17_1)).bind fun t1089 => ((impl_CountAt.f t1089).bind fun t1090 => (if 0 ≤ t1090 then (if t1090 < (x3_1.length : Int) then ((some (y1088.set (t1090 : Int).toNat (wrap64 ((rd y1088 t1090) + 1)) : List Int)).bind fun y1092 => (if x17_1 < (wrap64 (a0_1 - 1)) then ((impl_ViaAt.f (rd l0_0 x17_1)).bind fun t1093 => (if 0 ≤ t1093 then (if t1093 < (x3_1.length : Int) then (impl_WordsOf.l0 k1 (y1092.set (t1093 : Int).toNat (wrap64 (x17_1 + 1))) l0_0 (l0_0.length : Int) (wrap64 (x17_1 + 1)) l0_0 a0_1) else (none)) else (none))) else (impl_WordsOf.l0 k1 y1092 l0_0 (l0_0.length : Int) (wrap64 (x17_1 + 1)) l0_0 a0_1))) else (none)) else (none)))) = some r := by first | (rw [hy1088]; with_reducible exact H) | (have H2_ := (Option.bind_some _ _).symm.trans H; rw [hy1088]; with_reducible exact H2_) | (have H2_ := (Option.bind_some _ _).symm.trans H; with_reducible exact H2_) | with_reducible exact H | (rw [hy1088]; exact H) | exact H
                      have Ny1088 := Aside0.mk hy1088
                      clear hy1088
                      replace H := Option.bind_eq_some_iff.mp H
                      obtain ⟨t1089, A190, H⟩ := H
                      replace H : ((impl_CountAt.f t1089).bind fun t1090 => (if 0 ≤ t1090 then (if t1090 < (x3_1.length : Int) then ((some (y1088.set (t1090 : Int).toNat (wrap64 ((rd y1088 t1090) + 1)) : List Int)).bind fun y1092 => (if x17_1 < (wrap64 (a0_1 - 1)) then ((impl_ViaAt.f (rd l0_0 x17_1)).bind fun t1093 => (if 0 ≤ t1093 then (if t1093 < (x3_1.length : Int) then (impl_WordsOf.l0 k1 (y1092.set (t1093 : Int).toNat (wrap64 (x17_1 + 1))) l0_0 (l0_0.length : Int) (wrap64 (x17_1 + 1)) l0_0 a0_1) else (none)) else (none))) else (impl_WordsOf.l0 k1 y1092 l0_0 (l0_0.length : Int) (wrap64 (x17_1 + 1)) l0_0 a0_1))) else (none)) else (none))) = some r := H
                      have A19 := Aside0.mk A190
                      clear A190
                      replace H := Option.bind_eq_some_iff.mp H
                      obtain ⟨t1090, A200, H⟩ := H
                      replace H : (if 0 ≤ t1090 then (if t1090 < (x3_1.length : Int) then ((some (y1088.set (t1090 : Int).toNat (wrap64 ((rd y1088 t1090) + 1)) : List Int)).bind fun y1092 => (if x17_1 < (wrap64 (a0_1 - 1)) then ((impl_ViaAt.f (rd l0_0 x17_1)).bind fun t1093 => (if 0 ≤ t1093 then (if t1093 < (x3_1.length : Int) then (impl_WordsOf.l0 k1 (y1092.set (t1093 : Int).toNat (wrap64 (x17_1 + 1))) l0_0 (l0_0.length : Int) (wrap64 (x17_1 + 1)) l0_0 a0_1) else (none)) else (none))) else (impl_WordsOf.l0 k1 y1092 l0_0 (l0_0.length : Int) (wrap64 (x17_1 + 1)) l0_0 a0_1))) else (none)) else (none)) = some r := H
                      have A20 := Aside0.mk A200
                      clear A200
                      by_cases c21 : 0 ≤ t1090
                      · rw [if_pos c21] at H
                        have c21b0 : decide (0 ≤ t1090) = true := decide_eq_true c21
                        clear c21
                        by_cases c22 : t1090 < (x3_1.length : Int)
                        · rw [if_pos c22] at H
                          have c22b0 : decide (t1090 < (x3_1.length : Int)) = true := decide_eq_true c22
                          clear c22
                          obtain ⟨y1092, hy1092⟩ : ∃ y_ : List Int, y_ = (y1088.set (t1090 : Int).toNat (wrap64 ((rd y1088 t1090) + 1))) := ⟨_, rfl⟩
                          replace H : (if x17_1 < (wrap64 (a0_1 - 1)) then ((impl_ViaAt.f (rd l0_0 x17_1)).bind fun t1093 => (if 0 ≤ t1093 then (if t1093 < (x3_1.length : Int) then (impl_WordsOf.l0 k1 (y1092.set (t1093 : Int).toNat (wrap64 (x17_1 + 1))) l0_0 (l0_0.length : Int) (wrap64 (x17_1 + 1)) l0_0 a0_1) else (none)) else (none))) else (impl_WordsOf.l0 k1 y1092 l0_0 (l0_0.length : Int) (wrap64 (x17_1 + 1)) l0_0 a0_1)) = some r := by first | (rw [hy1092]; with_reducible exact H) | (have H2_ := (Option.bind_some _ _).symm.trans H; rw [hy1092]; with_reducible exact H2_) | (have H2_ := (Option.bind_some _ _).symm.trans H; with_reducible exact H2_) | with_reducible exact H | (rw [hy1092]; exact H) | exact H
                          have Ny1092 := Aside0.mk hy1092
                          clear hy1092
                          by_cases c24 : x17_1 < (wrap64 (a0_1 - 1))
                          · rw [if_pos c24] at H
                            have c24b0 : decide (x17_1 < (wrap64 (a0_1 - 1))) = true := decide_eq_true c24
                            clear c24
                            replace H := Option.bind_eq_some_iff.mp H
                            obtain ⟨t1093, A250, H⟩ := H
                            replace H : (if 0 ≤ t1093 then (if t1093 < (x3_1.length : Int) then (impl_WordsOf.l0 k1 (y1092.set (t1093 : Int).toNat (wrap64 (x17_1 + 1))) l0_0 (l0_0.length : Int) (wrap64 (x17_1 + 1)) l0_0 a0_1) else (none)) else (none)) = some r := H
                            have A25 := Aside0.mk A250
                            clear A250
                            by_cases c26 : 0 ≤ t1093
                            · rw [if_pos c26] at H
                              have c26b0 : decide (0 ≤ t1093) = true := decide_eq_true c26
                              clear c26
                              by_cases c27 : t1093 < (x3_1.length : Int)
                              · rw [if_pos c27] at H
                                have c27b0 : decide (t1093 < (x3_1.length : Int)) = true := decide_eq_true c27
                                clear c27
                                obtain ⟨y1094, hy1094⟩ : ∃ y_ : List Int, y_ = (y1092.set (t1093 : Int).toNat (wrap64 (x17_1 + 1))) := ⟨_, rfl⟩
                                replace H : (impl_WordsOf.l0 k1 y1094 l0_0 (l0_0.length : Int) (wrap64 (x17_1 + 1)) l0_0 a0_1) = some r := by first | (rw [hy1094]; with_reducible exact H) | (have H2_ := (Option.bind_some _ _).symm.trans H; rw [hy1094]; with_reducible exact H2_) | (have H2_ := (Option.bind_some _ _).symm.trans H; with_reducible exact H2_) | with_reducible exact H | (rw [hy1094]; exact H) | exact H
                                have Ny1094 := Aside0.mk hy1094
                                clear hy1094
                                have H' := Aside0.mk H
                                clear H
                                have p1086 : 0 ≤ (x17_1 : Int) := of_decide_eq_true (by first | (with_reducible assumption) | assumption)
                                have q1086 : x17_1 < (l0_0.length : Int) := of_decide_eq_true (by first | (with_reducible assumption) | assumption)
                                obtain ⟨ad1086, e1086, hx1086_0⟩ := Kd.at_int HR0_0.out x17_1 p1086 q1086
                                cases e1086
                                replace hx1086_0 := (HB.out.cell (World.block_lt_of_cell? w _ hx1086_0)).trans hx1086_0
                                replace p1086 := eq_true p1086
                                replace q1086 := eq_true q1086
                                go_wp2_with (first | ((with_reducible refine gate_callee (f := 175) rfl ?_); refine goesL_ (some 26) rfl rfl Try.func175 (by kernel_rfl) rfl #[.int .i64 (rd l0_0 x17_1)] rfl (by (try simp only [List.map_toArray, List.map_cons, List.map_nil]); first | done | rfl | (simp only [List.length_drop, List.length_take]; rfl)) ?_; (with_reducible refine (impl_OwnerAt.calls (rd l0_0 x17_1) t1087 _ A15.out).mono ?_); rintro e w' ⟨rfl, ⟨nd, rfl⟩⟩; refine ⟨_, rfl, ?_⟩; (try (rw [drewN_self wr]; generalize hq_ : World.drewN wr _ = wr; have n0_ : Aside0 (Kd.R (Kd.int .i64) 3 wr w.heap.size (fun _ => True) v1082 x3_1) := ⟨by rw [← hq_]; exact (by (with_reducible repeat (first | apply Kd.R_alloc | apply Kd.R_drewN | apply Kd.R_drew)); exact HO_3.out)⟩; have n1_ : Aside0 (wr.heap[gb1079]? = some (.cells #[.slice (some ad1086) l0_0.length c0_0, .int .i64 a0_1] 65 (0, 0))) := ⟨by rw [← hq_]; exact (by (with_reducible repeat (first | refine blk_drewN ?_ _ | refine blk_drew ?_ | refine blk_alloc ?_ _)); exact BK1079.out)⟩; have n2_ : Aside0 (Below w.heap.size w wr) := ⟨by rw [← hq_]; exact (by repeat (first | (with_reducible first | exact HB.out | apply below_alloc | apply pw_below_drewN | apply below_drew1 | refine below_set ?_ GE1079.out) | exact HB.out))⟩; clear HO_3 BK1079 HB hq_; have HO_3 := n0_; have BK1079 := n1_; have HB := n2_; clear n0_ n1_ n2_)); have p18 : 0 ≤ (t1087 : Int) := of_decide_eq_true (by first | (with_reducible assumption) | assumption); have q18 : (t1087 : Int) < ((x3_1.length : Int) : Int) := of_decide_eq_true (by first | (with_reducible assumption) | assumption); obtain ⟨go18, co18, eo18, gb18, gl18, cl18, HG18⟩ := Kd.R_form HO_3.out (by omega); (first | cases eo18 | (injection eo18 with ea_ en_ ec_; (first | subst ea_ | (injection ea_ with ea_; subst ea_)); subst ec_; clear en_)); have GB18 := Aside0.mk gb18; have GG18 := Aside0.mk HG18; clear gb18 gl18 HG18; obtain ⟨hx18_0, hf18_0⟩ := Kd.R_celln 0 HO_3.out (t1087 : Int) p18 q18; replace p18 := eq_true p18; replace q18 := eq_true q18; obtain ⟨hy29_, hz29_⟩ := Kd.R_celln 0 HO_3.out (t1087 : Int) (of_decide_eq_true (by first | (with_reducible assumption) | assumption)) (of_decide_eq_true (by first | (with_reducible assumption) | assumption)); have HP29 := Kd.R_putg HO_3.out (t1087 : Int) (wrap64 (x17_1 + 1))) | ((with_reducible refine gate_store (t := 3) (p := 29) rfl ?_); refine store_event (t := 3) (p := 29) (v := ?vo_w30) (w1 := (wr.setCell ⟨go18, (t1087 : Int).toNat, none⟩ (.int .i64 (wrap64 (x17_1 + 1))))) ?hg ?ho ?hn ?hr ?_; (case ho => rfl); (case hg => rfl); (case hn => rfl); (case hr => first | (go_simp; done) | (go_simp; rfl)); intro w30 hw; have hg : wr.grownBy w30 (some go18) := (by rw [hw]; exact HP29.2); have hp_ : Kd.R (Kd.int .i64) 3 w30 w.heap.size (fun _ => True) (.slice (some ⟨go18, 0, none⟩) x3_1.length co18) y1088 := (by rw [hw, Ny1088.out]; exact HP29.1); clear HP29; have n0_ := Aside0.mk (hp_); have n1_ := Aside0.mk (blk_grown (g := gb1079) (o := .cells #[.slice (some ad1086) l0_0.length c0_0, .int .i64 a0_1] 65 (0, 0)) (by (with_reducible repeat (first | refine blk_drewN ?_ _ | refine blk_drew ?_ | refine blk_alloc ?_ _)); exact BK1079.out) hg (Kd.R_ne HO_3.out BK1079.out (by decide))); have n2_ := Aside0.mk ((by rw [hw]; exact below_set (HB.out) GB18.out : Below w.heap.size w w30)); clear HO_3; clear BK1079; clear HB; have HO_3 := n0_; have BK1079 := n1_; have HB := n2_; clear n0_ n1_ n2_; clear hg hw hp_) | ((with_reducible refine gate_callee (f := 177) rfl ?_); refine goesL_ (some 32) rfl rfl Try.func177 (by kernel_rfl) rfl #[.int .i64 (rd l0_0 x17_1)] rfl (by (try simp only [List.map_toArray, List.map_cons, List.map_nil]); first | done | rfl | (simp only [List.length_drop, List.length_take]; rfl)) ?_; (with_reducible refine (impl_ClassOf.calls (rd l0_0 x17_1) t1089 _ A19.out).mono ?_); rintro e w' ⟨rfl, ⟨nd, rfl⟩⟩; refine ⟨_, rfl, ?_⟩; (try (rw [drewN_self w30]; generalize hq_ : World.drewN w30 _ = w30; have n0_ : Aside0 (Kd.R (Kd.int .i64) 3 w30 w.heap.size (fun _ => True) (.slice (some ⟨go18, 0, none⟩) x3_1.length co18) y1088) := ⟨by rw [← hq_]; exact (by (with_reducible repeat (first | apply Kd.R_alloc | apply Kd.R_drewN | apply Kd.R_drew)); exact HO_3.out)⟩; have n1_ : Aside0 (w30.heap[gb1079]? = some (.cells #[.slice (some ad1086) l0_0.length c0_0, .int .i64 a0_1] 65 (0, 0))) := ⟨by rw [← hq_]; exact (by (with_reducible repeat (first | refine blk_drewN ?_ _ | refine blk_drew ?_ | refine blk_alloc ?_ _)); exact BK1079.out)⟩; have n2_ : Aside0 (Below w.heap.size w w30) := ⟨by rw [← hq_]; exact (by repeat (first | (with_reducible first | exact HB.out | apply below_alloc | apply pw_below_drewN | apply below_drew1 | refine below_set ?_ GE1079.out) | exact HB.out))⟩; clear HO_3 BK1079 HB hq_; have HO_3 := n0_; have BK1079 := n1_; have HB := n2_; clear n0_ n1_ n2_))) | ((with_reducible refine gate_callee (f := 176) rfl ?_); refine goesL_ (some 33) rfl rfl Try.func176 (by kernel_rfl) rfl #[.int .i64 t1089] rfl (by (try simp only [List.map_toArray, List.map_cons, List.map_nil]); first | done | rfl | (simp only [List.length_drop, List.length_take]; rfl)) ?_; (with_reducible refine (impl_CountAt.calls t1089 t1090 _ A20.out).mono ?_); rintro e w' ⟨rfl, ⟨nd, rfl⟩⟩; refine ⟨_, rfl, ?_⟩; (try (rw [drewN_self w30]; generalize hq_ : World.drewN w30 _ = w30; have n0_ : Aside0 (Kd.R (Kd.int .i64) 3 w30 w.heap.size (fun _ => True) (.slice (some ⟨go18, 0, none⟩) x3_1.length co18) y1088) := ⟨by rw [← hq_]; exact (by (with_reducible repeat (first | apply Kd.R_alloc | apply Kd.R_drewN | apply Kd.R_drew)); exact HO_3.out)⟩; have n1_ : Aside0 (w30.heap[gb1079]? = some (.cells #[.slice (some ad1086) l0_0.length c0_0, .int .i64 a0_1] 65 (0, 0))) := ⟨by rw [← hq_]; exact (by (with_reducible repeat (first | refine blk_drewN ?_ _ | refine blk_drew ?_ | refine blk_alloc ?_ _)); exact BK1079.out)⟩; have n2_ : Aside0 (Below w.heap.size w w30) := ⟨by rw [← hq_]; exact (by repeat (first | (with_reducible first | exact HB.out | apply below_alloc | apply pw_below_drewN | apply below_drew1 | refine below_set ?_ GE1079.out) | exact HB.out))⟩; clear HO_3 BK1079 HB hq_; have HO_3 := n0_; have BK1079 := n1_; have HB := n2_; clear n0_ n1_ n2_)); have p1091 : 0 ≤ (t1090 : Int) := of_decide_eq_true (by first | (with_reducible assumption) | assumption); have q1091 : t1090 < (y1088.length : Int) := (by have h_ : (t1090 : Int) < ((x3_1.length : Int) : Int) := of_decide_eq_true (by first | (with_reducible assumption) | assumption); first | (have e_ := (Kd.R_reads' HO_3.out).1; omega) | simpa only [Ny1088.out, List.length_set] using h_); have ql1091 : ((t1090 : Int) < ((x3_1.length : Int) : Int)) = True := eq_true (of_decide_eq_true (by first | (with_reducible assumption) | assumption)); obtain ⟨ad1091, e1091, hx1091_0⟩ := Kd.at_int (Kd.R_reads' HO_3.out).2.2 t1090 p1091 q1091; obtain rfl : (⟨go18, 0, none⟩ : Addr) = ad1091 := (by injection e1091); (first | simp only [add_plain] at hx1091_0 | simp only [add_at] at hx1091_0 | simp only [Addr.add, Nat.zero_add] at hx1091_0 | skip); replace p1091 := eq_true p1091; replace q1091 := eq_true q1091; have p23 : 0 ≤ (t1090 : Int) := of_decide_eq_true (by first | (with_reducible assumption) | assumption); have q23 : (t1090 : Int) < ((x3_1.length : Int) : Int) := of_decide_eq_true (by first | (with_reducible assumption) | assumption); obtain ⟨hx23_0, hf23_0⟩ := Kd.R_celln 0 HO_3.out (t1090 : Int) p23 q23; replace p23 := eq_true p23; replace q23 := eq_true q23; obtain ⟨hy31_, hz31_⟩ := Kd.R_celln 0 HO_3.out (t1090 : Int) (of_decide_eq_true (by first | (with_reducible assumption) | assumption)) (of_decide_eq_true (by first | (with_reducible assumption) | assumption)); have HP31 := Kd.R_putg HO_3.out (t1090 : Int) (wrap64 ((rd y1088 t1090) + 1))) | ((with_reducible refine gate_store (t := 3) (p := 37) rfl ?_); refine store_event (t := 3) (p := 37) (v := ?vo_w32) (w1 := (w30.setCell ⟨go18, (t1090 : Int).toNat, none⟩ (.int .i64 (wrap64 ((rd y1088 t1090) + 1))))) ?hg ?ho ?hn ?hr ?_; (case ho => rfl); (case hg => rfl); (case hn => rfl); (case hr => first | (go_simp; done) | (go_simp; rfl)); intro w32 hw; have hg : w30.grownBy w32 (some go18) := (by rw [hw]; exact HP31.2); have hp_ : Kd.R (Kd.int .i64) 3 w32 w.heap.size (fun _ => True) (.slice (some ⟨go18, 0, none⟩) x3_1.length co18) y1092 := (by rw [hw, Ny1092.out]; exact HP31.1); clear HP31; have n0_ := Aside0.mk (hp_); have n1_ := Aside0.mk (blk_grown (g := gb1079) (o := .cells #[.slice (some ad1086) l0_0.length c0_0, .int .i64 a0_1] 65 (0, 0)) (by (with_reducible repeat (first | refine blk_drewN ?_ _ | refine blk_drew ?_ | refine blk_alloc ?_ _)); exact BK1079.out) hg (Kd.R_ne HO_3.out BK1079.out (by decide))); have n2_ := Aside0.mk ((by rw [hw]; exact below_set (HB.out) GB18.out : Below w.heap.size w w32)); clear HO_3; clear BK1079; clear HB; have HO_3 := n0_; have BK1079 := n1_; have HB := n2_; clear n0_ n1_ n2_; clear hg hw hp_; have hcz33_0 : w32.cell? ⟨gb1079, 0, none⟩ = some (.slice (some ad1086) l0_0.length c0_0) := (blk_cell BK1079.out 0).trans rfl; have hcz33_1 : w32.cell? ⟨gb1079, 1, none⟩ = some (.int .i64 a0_1) := (blk_cell BK1079.out 1).trans rfl; have hfz33_0 := blk_frozen BK1079.out 0; have hfz33_1 := blk_frozen BK1079.out 1) | ((with_reducible refine gate_callee (f := 178) rfl ?_); refine goesL_ (some 45) rfl rfl Try.func178 (by kernel_rfl) rfl #[.int .i64 (rd l0_0 x17_1)] rfl (by (try simp only [List.map_toArray, List.map_cons, List.map_nil]); first | done | rfl | (simp only [List.length_drop, List.length_take]; rfl)) ?_; (with_reducible refine (impl_ViaAt.calls (rd l0_0 x17_1) t1093 _ A25.out).mono ?_); rintro e w' ⟨rfl, ⟨nd, rfl⟩⟩; refine ⟨_, rfl, ?_⟩; (try (rw [drewN_self w32]; generalize hq_ : World.drewN w32 _ = w32; have n0_ : Aside0 (Kd.R (Kd.int .i64) 3 w32 w.heap.size (fun _ => True) (.slice (some ⟨go18, 0, none⟩) x3_1.length co18) y1092) := ⟨by rw [← hq_]; exact (by (with_reducible repeat (first | apply Kd.R_alloc | apply Kd.R_drewN | apply Kd.R_drew)); exact HO_3.out)⟩; have n1_ : Aside0 (w32.heap[gb1079]? = some (.cells #[.slice (some ad1086) l0_0.length c0_0, .int .i64 a0_1] 65 (0, 0))) := ⟨by rw [← hq_]; exact (by (with_reducible repeat (first | refine blk_drewN ?_ _ | refine blk_drew ?_ | refine blk_alloc ?_ _)); exact BK1079.out)⟩; have n2_ : Aside0 (Below w.heap.size w w32) := ⟨by rw [← hq_]; exact (by repeat (first | (with_reducible first | exact HB.out | apply below_alloc | apply pw_below_drewN | apply below_drew1 | refine below_set ?_ GE1079.out) | exact HB.out))⟩; clear HO_3 BK1079 HB hq_; have HO_3 := n0_; have BK1079 := n1_; have HB := n2_; clear n0_ n1_ n2_)); have p28 : 0 ≤ (t1093 : Int) := of_decide_eq_true (by first | (with_reducible assumption) | assumption); have q28 : (t1093 : Int) < ((x3_1.length : Int) : Int) := of_decide_eq_true (by first | (with_reducible assumption) | assumption); obtain ⟨hx28_0, hf28_0⟩ := Kd.R_celln 0 HO_3.out (t1093 : Int) p28 q28; replace p28 := eq_true p28; replace q28 := eq_true q28; obtain ⟨hy34_, hz34_⟩ := Kd.R_celln 0 HO_3.out (t1093 : Int) (of_decide_eq_true (by first | (with_reducible assumption) | assumption)) (of_decide_eq_true (by first | (with_reducible assumption) | assumption)); have HP34 := Kd.R_putg HO_3.out (t1093 : Int) (wrap64 (x17_1 + 1))) | ((with_reducible refine gate_store (t := 3) (p := 48) rfl ?_); refine store_event (t := 3) (p := 48) (v := ?vo_w35) (w1 := (w32.setCell ⟨go18, (t1093 : Int).toNat, none⟩ (.int .i64 (wrap64 (x17_1 + 1))))) ?hg ?ho ?hn ?hr ?_; (case ho => rfl); (case hg => rfl); (case hn => rfl); (case hr => first | (go_simp; done) | (go_simp; rfl)); intro w35 hw; have hg : w32.grownBy w35 (some go18) := (by rw [hw]; exact HP34.2); have hp_ : Kd.R (Kd.int .i64) 3 w35 w.heap.size (fun _ => True) (.slice (some ⟨go18, 0, none⟩) x3_1.length co18) y1094 := (by rw [hw, Ny1094.out]; exact HP34.1); clear HP34; have n0_ := Aside0.mk (hp_); have n1_ := Aside0.mk (blk_grown (g := gb1079) (o := .cells #[.slice (some ad1086) l0_0.length c0_0, .int .i64 a0_1] 65 (0, 0)) (by (with_reducible repeat (first | refine blk_drewN ?_ _ | refine blk_drew ?_ | refine blk_alloc ?_ _)); exact BK1079.out) hg (Kd.R_ne HO_3.out BK1079.out (by decide))); have n2_ := Aside0.mk ((by rw [hw]; exact below_set (HB.out) GB18.out : Below w.heap.size w w35)); clear HO_3; clear BK1079; clear HB; have HO_3 := n0_; have BK1079 := n1_; have HB := n2_; clear n0_ n1_ n2_; clear hg hw hp_))
                                go_roundg k1
                                case measure => have := HK1.out; omega
                                case rel => exact ⟨(y1094), (wrap64 (x17_1 + 1)), (by first | rfl | (simp; done) | (simp [*]; done)), H', ⟨by have := HK1.out; omega⟩, ⟨by (with_reducible repeat (first | apply Kd.R_alloc | apply Kd.R_drewN | apply Kd.R_drew)); exact HO_3.out⟩, ⟨by (with_reducible repeat (first | refine blk_drewN ?_ _ | refine blk_drew ?_ | refine blk_alloc ?_ _)); exact BK1079.out⟩, ⟨by repeat (first | (with_reducible first | exact HB.out | apply below_alloc | apply pw_below_drewN | apply below_drew1 | refine below_set ?_ GE1079.out) | exact HB.out)⟩⟩
                              · rw [if_neg c27] at H
                                exact absurd H (by simp)
                            · rw [if_neg c26] at H
                              exact absurd H (by simp)
                          · rw [if_neg c24] at H
                            have c24b0 : decide (x17_1 < (wrap64 (a0_1 - 1))) = false := decide_eq_false c24
                            clear c24
                            have H' := Aside0.mk H
                            clear H
                            have p1086 : 0 ≤ (x17_1 : Int) := of_decide_eq_true (by first | (with_reducible assumption) | assumption)
                            have q1086 : x17_1 < (l0_0.length : Int) := of_decide_eq_true (by first | (with_reducible assumption) | assumption)
                            obtain ⟨ad1086, e1086, hx1086_0⟩ := Kd.at_int HR0_0.out x17_1 p1086 q1086
                            cases e1086
                            replace hx1086_0 := (HB.out.cell (World.block_lt_of_cell? w _ hx1086_0)).trans hx1086_0
                            replace p1086 := eq_true p1086
                            replace q1086 := eq_true q1086
                            go_wp2_with (first | ((with_reducible refine gate_callee (f := 175) rfl ?_); refine goesL_ (some 26) rfl rfl Try.func175 (by kernel_rfl) rfl #[.int .i64 (rd l0_0 x17_1)] rfl (by (try simp only [List.map_toArray, List.map_cons, List.map_nil]); first | done | rfl | (simp only [List.length_drop, List.length_take]; rfl)) ?_; (with_reducible refine (impl_OwnerAt.calls (rd l0_0 x17_1) t1087 _ A15.out).mono ?_); rintro e w' ⟨rfl, ⟨nd, rfl⟩⟩; refine ⟨_, rfl, ?_⟩; (try (rw [drewN_self wr]; generalize hq_ : World.drewN wr _ = wr; have n0_ : Aside0 (Kd.R (Kd.int .i64) 3 wr w.heap.size (fun _ => True) v1082 x3_1) := ⟨by rw [← hq_]; exact (by (with_reducible repeat (first | apply Kd.R_alloc | apply Kd.R_drewN | apply Kd.R_drew)); exact HO_3.out)⟩; have n1_ : Aside0 (wr.heap[gb1079]? = some (.cells #[.slice (some ad1086) l0_0.length c0_0, .int .i64 a0_1] 65 (0, 0))) := ⟨by rw [← hq_]; exact (by (with_reducible repeat (first | refine blk_drewN ?_ _ | refine blk_drew ?_ | refine blk_alloc ?_ _)); exact BK1079.out)⟩; have n2_ : Aside0 (Below w.heap.size w wr) := ⟨by rw [← hq_]; exact (by repeat (first | (with_reducible first | exact HB.out | apply below_alloc | apply pw_below_drewN | apply below_drew1 | refine below_set ?_ GE1079.out) | exact HB.out))⟩; clear HO_3 BK1079 HB hq_; have HO_3 := n0_; have BK1079 := n1_; have HB := n2_; clear n0_ n1_ n2_)); have p18 : 0 ≤ (t1087 : Int) := of_decide_eq_true (by first | (with_reducible assumption) | assumption); have q18 : (t1087 : Int) < ((x3_1.length : Int) : Int) := of_decide_eq_true (by first | (with_reducible assumption) | assumption); obtain ⟨go18, co18, eo18, gb18, gl18, cl18, HG18⟩ := Kd.R_form HO_3.out (by omega); (first | cases eo18 | (injection eo18 with ea_ en_ ec_; (first | subst ea_ | (injection ea_ with ea_; subst ea_)); subst ec_; clear en_)); have GB18 := Aside0.mk gb18; have GG18 := Aside0.mk HG18; clear gb18 gl18 HG18; obtain ⟨hx18_0, hf18_0⟩ := Kd.R_celln 0 HO_3.out (t1087 : Int) p18 q18; replace p18 := eq_true p18; replace q18 := eq_true q18; obtain ⟨hy36_, hz36_⟩ := Kd.R_celln 0 HO_3.out (t1087 : Int) (of_decide_eq_true (by first | (with_reducible assumption) | assumption)) (of_decide_eq_true (by first | (with_reducible assumption) | assumption)); have HP36 := Kd.R_putg HO_3.out (t1087 : Int) (wrap64 (x17_1 + 1))) | ((with_reducible refine gate_store (t := 3) (p := 29) rfl ?_); refine store_event (t := 3) (p := 29) (v := ?vo_w37) (w1 := (wr.setCell ⟨go18, (t1087 : Int).toNat, none⟩ (.int .i64 (wrap64 (x17_1 + 1))))) ?hg ?ho ?hn ?hr ?_; (case ho => rfl); (case hg => rfl); (case hn => rfl); (case hr => first | (go_simp; done) | (go_simp; rfl)); intro w37 hw; have hg : wr.grownBy w37 (some go18) := (by rw [hw]; exact HP36.2); have hp_ : Kd.R (Kd.int .i64) 3 w37 w.heap.size (fun _ => True) (.slice (some ⟨go18, 0, none⟩) x3_1.length co18) y1088 := (by rw [hw, Ny1088.out]; exact HP36.1); clear HP36; have n0_ := Aside0.mk (hp_); have n1_ := Aside0.mk (blk_grown (g := gb1079) (o := .cells #[.slice (some ad1086) l0_0.length c0_0, .int .i64 a0_1] 65 (0, 0)) (by (with_reducible repeat (first | refine blk_drewN ?_ _ | refine blk_drew ?_ | refine blk_alloc ?_ _)); exact BK1079.out) hg (Kd.R_ne HO_3.out BK1079.out (by decide))); have n2_ := Aside0.mk ((by rw [hw]; exact below_set (HB.out) GB18.out : Below w.heap.size w w37)); clear HO_3; clear BK1079; clear HB; have HO_3 := n0_; have BK1079 := n1_; have HB := n2_; clear n0_ n1_ n2_; clear hg hw hp_) | ((with_reducible refine gate_callee (f := 177) rfl ?_); refine goesL_ (some 32) rfl rfl Try.func177 (by kernel_rfl) rfl #[.int .i64 (rd l0_0 x17_1)] rfl (by (try simp only [List.map_toArray, List.map_cons, List.map_nil]); first | done | rfl | (simp only [List.length_drop, List.length_take]; rfl)) ?_; (with_reducible refine (impl_ClassOf.calls (rd l0_0 x17_1) t1089 _ A19.out).mono ?_); rintro e w' ⟨rfl, ⟨nd, rfl⟩⟩; refine ⟨_, rfl, ?_⟩; (try (rw [drewN_self w37]; generalize hq_ : World.drewN w37 _ = w37; have n0_ : Aside0 (Kd.R (Kd.int .i64) 3 w37 w.heap.size (fun _ => True) (.slice (some ⟨go18, 0, none⟩) x3_1.length co18) y1088) := ⟨by rw [← hq_]; exact (by (with_reducible repeat (first | apply Kd.R_alloc | apply Kd.R_drewN | apply Kd.R_drew)); exact HO_3.out)⟩; have n1_ : Aside0 (w37.heap[gb1079]? = some (.cells #[.slice (some ad1086) l0_0.length c0_0, .int .i64 a0_1] 65 (0, 0))) := ⟨by rw [← hq_]; exact (by (with_reducible repeat (first | refine blk_drewN ?_ _ | refine blk_drew ?_ | refine blk_alloc ?_ _)); exact BK1079.out)⟩; have n2_ : Aside0 (Below w.heap.size w w37) := ⟨by rw [← hq_]; exact (by repeat (first | (with_reducible first | exact HB.out | apply below_alloc | apply pw_below_drewN | apply below_drew1 | refine below_set ?_ GE1079.out) | exact HB.out))⟩; clear HO_3 BK1079 HB hq_; have HO_3 := n0_; have BK1079 := n1_; have HB := n2_; clear n0_ n1_ n2_))) | ((with_reducible refine gate_callee (f := 176) rfl ?_); refine goesL_ (some 33) rfl rfl Try.func176 (by kernel_rfl) rfl #[.int .i64 t1089] rfl (by (try simp only [List.map_toArray, List.map_cons, List.map_nil]); first | done | rfl | (simp only [List.length_drop, List.length_take]; rfl)) ?_; (with_reducible refine (impl_CountAt.calls t1089 t1090 _ A20.out).mono ?_); rintro e w' ⟨rfl, ⟨nd, rfl⟩⟩; refine ⟨_, rfl, ?_⟩; (try (rw [drewN_self w37]; generalize hq_ : World.drewN w37 _ = w37; have n0_ : Aside0 (Kd.R (Kd.int .i64) 3 w37 w.heap.size (fun _ => True) (.slice (some ⟨go18, 0, none⟩) x3_1.length co18) y1088) := ⟨by rw [← hq_]; exact (by (with_reducible repeat (first | apply Kd.R_alloc | apply Kd.R_drewN | apply Kd.R_drew)); exact HO_3.out)⟩; have n1_ : Aside0 (w37.heap[gb1079]? = some (.cells #[.slice (some ad1086) l0_0.length c0_0, .int .i64 a0_1] 65 (0, 0))) := ⟨by rw [← hq_]; exact (by (with_reducible repeat (first | refine blk_drewN ?_ _ | refine blk_drew ?_ | refine blk_alloc ?_ _)); exact BK1079.out)⟩; have n2_ : Aside0 (Below w.heap.size w w37) := ⟨by rw [← hq_]; exact (by repeat (first | (with_reducible first | exact HB.out | apply below_alloc | apply pw_below_drewN | apply below_drew1 | refine below_set ?_ GE1079.out) | exact HB.out))⟩; clear HO_3 BK1079 HB hq_; have HO_3 := n0_; have BK1079 := n1_; have HB := n2_; clear n0_ n1_ n2_)); have p1091 : 0 ≤ (t1090 : Int) := of_decide_eq_true (by first | (with_reducible assumption) | assumption); have q1091 : t1090 < (y1088.length : Int) := (by have h_ : (t1090 : Int) < ((x3_1.length : Int) : Int) := of_decide_eq_true (by first | (with_reducible assumption) | assumption); first | (have e_ := (Kd.R_reads' HO_3.out).1; omega) | simpa only [Ny1088.out, List.length_set] using h_); have ql1091 : ((t1090 : Int) < ((x3_1.length : Int) : Int)) = True := eq_true (of_decide_eq_true (by first | (with_reducible assumption) | assumption)); obtain ⟨ad1091, e1091, hx1091_0⟩ := Kd.at_int (Kd.R_reads' HO_3.out).2.2 t1090 p1091 q1091; obtain rfl : (⟨go18, 0, none⟩ : Addr) = ad1091 := (by injection e1091); (first | simp only [add_plain] at hx1091_0 | simp only [add_at] at hx1091_0 | simp only [Addr.add, Nat.zero_add] at hx1091_0 | skip); replace p1091 := eq_true p1091; replace q1091 := eq_true q1091; have p23 : 0 ≤ (t1090 : Int) := of_decide_eq_true (by first | (with_reducible assumption) | assumption); have q23 : (t1090 : Int) < ((x3_1.length : Int) : Int) := of_decide_eq_true (by first | (with_reducible assumption) | assumption); obtain ⟨hx23_0, hf23_0⟩ := Kd.R_celln 0 HO_3.out (t1090 : Int) p23 q23; replace p23 := eq_true p23; replace q23 := eq_true q23; obtain ⟨hy38_, hz38_⟩ := Kd.R_celln 0 HO_3.out (t1090 : Int) (of_decide_eq_true (by first | (with_reducible assumption) | assumption)) (of_decide_eq_true (by first | (with_reducible assumption) | assumption)); have HP38 := Kd.R_putg HO_3.out (t1090 : Int) (wrap64 ((rd y1088 t1090) + 1))) | ((with_reducible refine gate_store (t := 3) (p := 37) rfl ?_); refine store_event (t := 3) (p := 37) (v := ?vo_w39) (w1 := (w37.setCell ⟨go18, (t1090 : Int).toNat, none⟩ (.int .i64 (wrap64 ((rd y1088 t1090) + 1))))) ?hg ?ho ?hn ?hr ?_; (case ho => rfl); (case hg => rfl); (case hn => rfl); (case hr => first | (go_simp; done) | (go_simp; rfl)); intro w39 hw; have hg : w37.grownBy w39 (some go18) := (by rw [hw]; exact HP38.2); have hp_ : Kd.R (Kd.int .i64) 3 w39 w.heap.size (fun _ => True) (.slice (some ⟨go18, 0, none⟩) x3_1.length co18) y1092 := (by rw [hw, Ny1092.out]; exact HP38.1); clear HP38; have n0_ := Aside0.mk (hp_); have n1_ := Aside0.mk (blk_grown (g := gb1079) (o := .cells #[.slice (some ad1086) l0_0.length c0_0, .int .i64 a0_1] 65 (0, 0)) (by (with_reducible repeat (first | refine blk_drewN ?_ _ | refine blk_drew ?_ | refine blk_alloc ?_ _)); exact BK1079.out) hg (Kd.R_ne HO_3.out BK1079.out (by decide))); have n2_ := Aside0.mk ((by rw [hw]; exact below_set (HB.out) GB18.out : Below w.heap.size w w39)); clear HO_3; clear BK1079; clear HB; have HO_3 := n0_; have BK1079 := n1_; have HB := n2_; clear n0_ n1_ n2_; clear hg hw hp_; have hcz40_0 : w39.cell? ⟨gb1079, 0, none⟩ = some (.slice (some ad1086) l0_0.length c0_0) := (blk_cell BK1079.out 0).trans rfl; have hcz40_1 : w39.cell? ⟨gb1079, 1, none⟩ = some (.int .i64 a0_1) := (blk_cell BK1079.out 1).trans rfl; have hfz40_0 := blk_frozen BK1079.out 0; have hfz40_1 := blk_frozen BK1079.out 1))
                            go_roundg k1
                            case measure => have := HK1.out; omega
                            case rel => exact ⟨(y1092), (wrap64 (x17_1 + 1)), (by first | rfl | (simp; done) | (simp [*]; done)), H', ⟨by have := HK1.out; omega⟩, ⟨by (with_reducible repeat (first | apply Kd.R_alloc | apply Kd.R_drewN | apply Kd.R_drew)); exact HO_3.out⟩, ⟨by (with_reducible repeat (first | refine blk_drewN ?_ _ | refine blk_drew ?_ | refine blk_alloc ?_ _)); exact BK1079.out⟩, ⟨by repeat (first | (with_reducible first | exact HB.out | apply below_alloc | apply pw_below_drewN | apply below_drew1 | refine below_set ?_ GE1079.out) | exact HB.out)⟩⟩
                        · rw [if_neg c22] at H
                          exact absurd H (by simp)
                      · rw [if_neg c21] at H
                        exact absurd H (by simp)
                    · rw [if_neg c17] at H
                      exact absurd H (by simp)
                  · rw [if_neg c16] at H
                    exact absurd H (by simp)
              · rw [if_neg c13] at H
                exact absurd H (by simp)
            · rw [if_neg c12] at H
              exact absurd H (by simp)
          · rw [if_neg c11] at H
            have c11b0 : decide (x17_1 < (l0_0.length : Int)) = false := decide_eq_false c11
            clear c11
            replace H := Option.bind_eq_some_iff.mp H
            obtain ⟨t1084, A410, H⟩ := H
            replace H : (if 0 ≤ t1084 then (if t1084 < (x3_1.length : Int) then (some (x3_1.set (t1084 : Int).toNat a0_1)) else (none)) else (none)) = some r := H
            have A41 := Aside0.mk A410
            clear A410
            by_cases c42 : 0 ≤ t1084
            · rw [if_pos c42] at H
              have c42b0 : decide (0 ≤ t1084) = true := decide_eq_true c42
              clear c42
              by_cases c43 : t1084 < (x3_1.length : Int)
              · rw [if_pos c43] at H
                have c43b0 : decide (t1084 < (x3_1.length : Int)) = true := decide_eq_true c43
                clear c43
                obtain ⟨y1085, hy1085⟩ : ∃ y_ : List Int, y_ = (x3_1.set (t1084 : Int).toNat a0_1) := ⟨_, rfl⟩
                replace H : (some y1085) = some r := by first | (rw [hy1085]; with_reducible exact H) | (have H2_ := (Option.bind_some _ _).symm.trans H; rw [hy1085]; with_reducible exact H2_) | (have H2_ := (Option.bind_some _ _).symm.trans H; with_reducible exact H2_) | with_reducible exact H | (rw [hy1085]; exact H) | exact H
                have Ny1085 := Aside0.mk hy1085
                clear hy1085
                obtain rfl := Option.some.inj H
                try go_wp2
                have n0_ := Aside0.mk (Kd.R_drew HO_3.out)
                have n1_ := Aside0.mk (blk_drew BK1079.out)
                have n2_ := Aside0.mk (below_drew1 HB.out)
                clear HO_3
                clear BK1079
                clear HB
                have HO_3 := n0_
                have BK1079 := n1_
                have HB := n2_
                clear n0_ n1_ n2_
                refine start_ (n := 6) (S := fun w' => w'.cell? ⟨gb1079, 0, none⟩ = some (.slice A0_0 l0_0.length c0_0) ∧ w'.cell? ⟨gb1079, 1, none⟩ = some (.int .i64 a0_1)) (ds := [5]) #[false, false, false, false, false, false] (by kernel_rfl) rfl rfl ⟨(blk_cell BK1079.out 0).trans rfl, (blk_cell BK1079.out 1).trans rfl⟩ (fun hHeld => ?_)
                generalize wr.drew = w45 at HO_3 BK1079 HB hHeld ⊢
                refine pure_ (i := 0) (N := some 50) (v := ?_) (a' := ?_) #[true, false, false, false, false, false] rfl rfl (by kernel_rfl) (fun _ _ _ h => h) (Or.inl ⟨by rfl, ?_⟩) ?_ ?_
                rotate_left
                · intro w'
                  go_simp
                  with_reducible rfl
                rotate_left
                · simp only [Act.put, List.setIfInBounds_toArray, List.set_cons_zero, List.set_cons_succ, i64_w, i32_w]
                  rfl
                refine pure_ (i := 2) (N := some 52) (v := ?_) (a' := ?_) #[true, false, true, false, false, false] rfl rfl (by kernel_rfl) (fun _ _ _ h => h) (Or.inl ⟨by rfl, ?_⟩) ?_ ?_
                rotate_left
                · intro w'
                  go_simp
                  with_reducible rfl
                rotate_left
                · simp only [Act.put, List.setIfInBounds_toArray, List.set_cons_zero, List.set_cons_succ, i64_w, i32_w]
                  rfl
                refine take_ (i := 3) (N := some 53) (v := ?_) (a' := ?_) #[true, false, true, true, false, false] rfl rfl (by kernel_rfl) (fun _ _ _ h => h) (Or.inl ⟨by rfl, ?_⟩) hHeld ?_ ?_
                rotate_left
                · rintro w' ⟨s0, s1⟩
                  go_simp
                  with_reducible rfl
                rotate_left
                · simp only [Act.put, List.setIfInBounds_toArray, List.set_cons_zero, List.set_cons_succ, i64_w, i32_w]
                  rfl
                refine one_ (i := 1) (N := some 51) #[true, true, true, true, false, false] rfl rfl (by kernel_rfl) (by decide) (fun K hK => ?_)
                refine goes_ Try.func179 (by kernel_rfl) rfl #[] (by rfl) rfl rfl (by (try simp only [List.map_toArray, List.map_cons, List.map_nil]); first | done | rfl | (simp only [List.length_drop, List.length_take]; rfl)) ?_
                with_reducible refine (impl_StateAt.calls  t1084 _ A41.out).mono ?_
                rintro e w' ⟨rfl, ⟨nd, rfl⟩⟩
                refine ⟨_, rfl, ?_⟩
                have p44 : 0 ≤ (t1084 : Int) := of_decide_eq_true (by first | (with_reducible assumption) | assumption)
                have q44 : (t1084 : Int) < ((x3_1.length : Int) : Int) := of_decide_eq_true (by first | (with_reducible assumption) | assumption)
                obtain ⟨go44, co44, eo44, gb44, gl44, cl44, HG44⟩ := Kd.R_form HO_3.out (by omega)
                (first | cases eo44 | (injection eo44 with ea_ en_ ec_; (first | subst ea_ | (injection ea_ with ea_; subst ea_)); subst ec_; clear en_))
                have GB44 := Aside0.mk gb44
                have GG44 := Aside0.mk HG44
                clear gb44 gl44 HG44
                obtain ⟨hx44_0, hf44_0⟩ := Kd.R_celln 0 HO_3.out (t1084 : Int) p44 q44
                replace p44 := eq_true p44
                replace q44 := eq_true q44
                have HP46 := Kd.R_putn HO_3.out (t1084 : Int) a0_1
                rw [← Ny1085.out] at HP46
                have HQ46 := Aside0.mk HP46
                clear HP46
                refine hK.out _ _ ⟨(blk_cell BK1079.out 0).trans rfl, (blk_cell BK1079.out 1).trans rfl⟩ (fun hHeld => ?_)
                clear hK K
                refine norm_ (a' := ?_) ?_ ?_
                rotate_left
                · show Act.put _ (some 51) _ = _
                  simp only [Act.put, List.setIfInBounds_toArray, List.set_cons_zero, List.set_cons_succ, i64_w, i32_w]
                  rfl
                refine pure_ (i := 4) (N := some 54) (v := ?_) (a' := ?_) #[true, true, true, true, true, false] rfl rfl (by kernel_rfl) (fun _ _ _ h => h) (Or.inl ⟨by rfl, ?_⟩) ?_ ?_
                rotate_left
                · intro w'
                  go_simp
                  with_reducible rfl
                rotate_left
                · simp only [Act.put, List.setIfInBounds_toArray, List.set_cons_zero, List.set_cons_succ, i64_w, i32_w]
                  rfl
                refine last_ (i := 5) (N := none) #[true, true, true, true, true, true] rfl rfl (by kernel_rfl) (by decide) (fun K hK => ?_)
                refine skip_ (w1 := ?_) (by rfl) rfl ?_ ?_
                rotate_left
                · go_simp
                  rfl
                refine hK.out _ _ ?_
                clear hK K
                refine done_ (by kernel_rfl) ?_
                try go_wp2
                go_ret
                exact ⟨_, by first | rfl | (simp [errW_none, errW_some] <;> rfl) | (simp [*, errW_none, errW_some] <;> rfl), by (with_reducible repeat (first | apply Kd.R_alloc | apply Kd.R_drewN | apply Kd.R_drew)); exact HQ46.out, by repeat (first | (with_reducible first | exact HB.out | apply below_alloc | apply pw_below_drewN | apply below_drew1 | refine below_set ?_ GB44.out | refine below_set ?_ GE1079.out) | exact HB.out)⟩
              · rw [if_neg c43] at H
                exact absurd H (by simp)
            · rw [if_neg c42] at H
              exact absurd H (by simp)
    · rw [if_neg c4] at H
      exact absurd H (by simp)
  · replace c3 := Bool.eq_false_iff.mpr c3
    subst c3
    have H1 : (some ([] : List Int)) = some r := by rw [if_neg (show ¬ (false = true) by decide)] at H; exact H
    clear H
    have H := H1
    clear H1
    obtain rfl := Option.some.inj H
    go_enter Try.func129, Try.ntmps129
    go_wp2_with (first | ((with_reducible refine gate_dst (N := 1) rfl ?_); refine box_event ?hg (N := 1) ?hd (cs := #[.slice A0_0 l0_0.length c0_0, .int .i64 a0_1]) (t := 65) ?hr ?_; (case hd => rfl); (case hg => rfl); (case hr => first | (go_simp; done) | (go_simp; rfl)); intro gb1079 hg w47 hbox hb; have n0_ := Aside0.mk (below_step (by repeat (first | (with_reducible first | exact HB.out | apply below_alloc | apply pw_below_drewN | apply below_drew1) | exact HB.out)) hb); have n1_ := Aside0.mk (hbox); have n2_ := Aside0.mk ((by rw [hg]; exact (below_size (by repeat (first | (with_reducible first | exact HB.out | apply below_alloc | apply pw_below_drewN | apply below_drew1) | exact HB.out))) : w.heap.size ≤ gb1079)); have n3_ := Aside0.mk ((by rw [hg]; exact (below_size (by repeat (first | (with_reducible first | exact HB.out | apply below_alloc | apply pw_below_drewN | apply below_drew1) | exact HB.out))) : w.heap.size ≤ gb1079)); clear HB; have HB := n0_; have BK1079 := n1_; have GW1079 := n2_; have GE1079 := n3_; clear n0_ n1_ n2_ n3_; clear hb hbox hg; have hcz48_0 : w47.cell? ⟨gb1079, 0, none⟩ = some (.slice A0_0 l0_0.length c0_0) := (blk_cell BK1079.out 0).trans rfl; have hcz48_1 : w47.cell? ⟨gb1079, 1, none⟩ = some (.int .i64 a0_1) := (blk_cell BK1079.out 1).trans rfl; have hfz48_0 := blk_frozen BK1079.out 0; have hfz48_1 := blk_frozen BK1079.out 1) | ((with_reducible refine gate_callee (f := 55) rfl ?_); refine goesL_ (some 7) rfl rfl Try.func55 (by kernel_rfl) rfl #[.agg #[.slice A0_0 l0_0.length c0_0, .int .i64 a0_1]] rfl (by (try simp only [List.map_toArray, List.map_cons, List.map_nil]); first | done | rfl | (simp only [List.length_drop, List.length_take]; rfl)) ?_; (with_reducible refine (impl_RowsOk.calls k _ _ l0_0 a0_1 false _ ?side1 ?side2 A2.out).mono ?_); (case side1 => repeat (first | exact (Kd.C_below HR0_0.out HB.out) | (with_reducible refine Kd.C_alloc ?_ _) | (with_reducible refine Kd.C_drewN ?_ _) | (with_reducible refine Kd.C_drew ?_))); (case side2 => exact HC0_0.out); rintro e w49 ⟨rfl, hb⟩; refine ⟨_, rfl, ?_⟩; have n0_ := Aside0.mk (blk_below (g := gb1079) (o := .cells #[.slice A0_0 l0_0.length c0_0, .int .i64 a0_1] 65 (0, 0)) (by (with_reducible repeat (first | refine blk_drewN ?_ _ | refine blk_drew ?_ | refine blk_alloc ?_ _)); exact BK1079.out) hb); have n1_ := Aside0.mk (below_step (by repeat (first | (with_reducible first | exact HB.out | apply below_alloc | apply pw_below_drewN | apply below_drew1 | refine below_set ?_ GE1079.out) | exact HB.out)) hb); clear BK1079; clear HB; have BK1079 := n0_; have HB := n1_; clear n0_ n1_; (try clear hb); (try clear hb2); (try clear hk); (try clear hi)))
    go_ret
    exact ⟨_, by first | rfl | (simp [errW_none, errW_some] <;> rfl) | (simp [*, errW_none, errW_some] <;> rfl), by first | exact Kd.R_nil _ _ _ _ _ | exact Kd.N_nil _ _ _ _ _ | exact Kd.V_nil _ _ _ _ _ | exact Kd.Q_nil _ _ _ _ _ | exact Kd.S_nil _ _ _ _ _, by repeat (first | (with_reducible first | exact HB.out | apply below_alloc | apply pw_below_drewN | apply below_drew1 | refine below_set ?_ GE1079.out) | exact HB.out)⟩
def spec_HowMany.l0 : Nat → Int → Int → Int → List Int → Int → Option (Int)
 | 0, _, _, _, _, _ => none
 | k + 1, x1, x5, x6, x488000, x488001 => if x6 < (x488000.length : Int) then (if 0 ≤ x6 then ((spec_ValOk.f (rd x488000 x6)).bind fun t489 => (if t489 = true then ((spec_ClassOf.f (rd x488000 x6)).bind fun t491 => ((spec_l1Bit.f (t491 == x1)).bind fun t492 => (spec_HowMany.l0 k x1 (wrap64 (x5 + t492)) (wrap64 (x6 + 1)) x488000 x488001))) else ((spec_l1Bit.f false).bind fun t493 => (spec_HowMany.l0 k x1 (wrap64 (x5 + t493)) (wrap64 (x6 + 1)) x488000 x488001)))) else (none)) else (some x5)
def spec_HowMany.f (k : Nat) (l0_0 : List Int) (a0_1 : Int) (a1 : Int) : Option (Int) := spec_HowMany.l0 k a1 0 0 l0_0 a0_1
theorem spec_HowMany.mono_l : ∀ k, (∀ y0 y1 y2 y3 y4, LeO (spec_HowMany.l0 k y0 y1 y2 y3 y4) (spec_HowMany.l0 (k + 1) y0 y1 y2 y3 y4))
 | 0 => fun _ _ _ _ _ r h => by simp [spec_HowMany.l0] at h
 | k + 1 => by
  have ih0 := spec_HowMany.mono_l k
  ·intro y0 y1 y2 y3 y4
   unfold spec_HowMany.l0
   repeat' first
   | (with_reducible exact ih0 _ _ _ _ _)
   | (with_reducible exact LeO.refl _)
   | (with_reducible exact LeO.none _)
   | (with_reducible refine LeO.ite ?_ ?_)
   | (with_reducible refine LeO.bind ?_ (fun _ => ?_))
   | exact ih0 _ _ _ _ _
   | exact LeO.none _
   | refine LeO.ite ?_ ?_
   | refine LeO.bind ?_ (fun _ => ?_)
theorem spec_HowMany.mono : ∀ a0 a1 a2 k, LeO (spec_HowMany.f k a0 a1 a2) (spec_HowMany.f (k + 1) a0 a1 a2) := by
 intro a0 a1 a2 k
 have ih0 := spec_HowMany.mono_l k
 unfold spec_HowMany.f
 repeat' first
   | (with_reducible exact ih0 _ _ _ _ _)
   | (with_reducible exact LeO.refl _)
   | (with_reducible exact LeO.none _)
   | (with_reducible refine LeO.ite ?_ ?_)
   | (with_reducible refine LeO.bind ?_ (fun _ => ?_))
   | exact ih0 _ _ _ _ _
   | exact LeO.none _
   | refine LeO.ite ?_ ?_
   | refine LeO.bind ?_ (fun _ => ?_)
set_option maxHeartbeats 8000000 in
set_option maxRecDepth 100000 in
theorem spec_HowMany.calls (k : Nat) (A0_0 : Option Addr) (c0_0 : Nat) (l0_0 : List Int) (a0_1 : Int) (a1 : Int) (r : Int) (w : World) (hr0_0 : Kd.C (Kd.int .i64) w A0_0 l0_0.length l0_0) (hc0_0 : l0_0.length ≤ c0_0) (h : spec_HowMany.f k l0_0 a0_1 a1 = some r) :
  Calls Try.prog 166 #[.agg #[.slice A0_0 l0_0.length c0_0, .int .i64 a0_1], .int .i64 a1] w fun e w' => e = .returned (.int .i64 r) ∧ Below w.heap.size w w' := by
 have hu65 := Try.underlying65
 have HR0_0 := Aside0.mk hr0_0
 have HC0_0 := Aside0.mk hc0_0
 clear hr0_0 hc0_0
 have HB := Aside0.mk (Below.refl w.heap.size w)
 have H := h
 clear h
 unfold spec_HowMany.f at H
 have H' := Aside0.mk H
 clear H
 go_enter Try.func166, Try.ntmps166
 go_wp2_with (first | ((with_reducible refine gq 2 rfl ?_); refine bx0 HB (N := 2) (t := 65) ?_; clear HB; intro gb487 w3 BK487 GE487 HB))
 go_loopg [5, 6] k (fun kq v5 v6 w' => ∃ (x5_1 : Int) (x6_1 : Int), v5 = .int .i64 x5_1 ∧ v6 = .int .i64 x6_1 ∧ Aside0 (spec_HowMany.l0 kq a1 x5_1 x6_1 l0_0 a0_1 = some r) ∧ Aside0 (kq ≤ k) ∧ Aside0 (w'.heap[gb487]? = some (.cells #[(.slice A0_0 l0_0.length c0_0), .int .i64 a0_1] 65 (0, 0))) ∧ Aside0 (Below w.heap.size w w'))
 case atStart => exact ⟨(0), (0), rsd, rsd, H', ⟨Nat.le_refl _⟩, ⟨by (with_reducible repeat (first | refine blk_drewN ?_ _ | refine blk_drew ?_ | refine blk_alloc ?_ _)); exact BK487.out⟩, ⟨tb HB⟩⟩
 case round =>
  clear H'
  obtain ⟨x5_1, x6_1, rfl, rfl, HA, HK1, BK487, HB⟩ := hrel
  cases gk with
  | zero => exact absurd HA.out (by simp [spec_HowMany.l0])
  | succ k1 =>
   have H := HA.out
   clear HA
   simp only [spec_HowMany.l0] at H
   revert H; refine icd (fun c4b0 H => ?_) fun c4b0 H => ?neg
   case neg =>
    obtain rfl := oin H
    have hz13 := cs2_ BK487
    go_wp2
    go_ret
    exact ⟨er, tb HB⟩
   obtain ⟨c5b0, H⟩ := itd H
   obtain ⟨t489, A6, H⟩ := bn H
   try dsimp only at H
   cases t489
   case false =>
    replace H := ipf H
    obtain ⟨t493, A11, H⟩ := bn H
    try dsimp only at H
    have H' := Aside0.mk H
    clear H
    have hz12 := cs2_ BK487
    have p488 : 0 ≤ (x6_1 : Int) := od
    have q488 : x6_1 < (l0_0.length : Int) := od
    obtain ⟨ad488, e488, hx488_0⟩ := Kd.at_int HR0_0.out x6_1 p488 q488
    cases e488
    replace hx488_0 := ox HB hx488_0
    replace p488 := eq_true p488
    replace q488 := eq_true q488
    go_wp2_with (first | ((with_reducible refine gf 125 rfl ?_); refine gL 20 Try.func125 #[.int .i64 (rd l0_0 x6_1)] ?_; (with_reducible refine (spec_ValOk.calls (rd l0_0 x6_1) false _ A6.out).mono ?_); rintro e w' ⟨rfl, ⟨nd, rfl⟩⟩; refine ⟨_, rfl, ?_⟩) | ((with_reducible refine gf 192 rfl ?_); refine gL 31 Try.func192 #[.bool false] ?_; (with_reducible refine (spec_l1Bit.calls false t493 _ A11.out).mono ?_); rintro e w' ⟨rfl, ⟨nd, rfl⟩⟩; refine ⟨_, rfl, ?_⟩))
    go_roundg k1
    case measure => have := HK1.out; omega
    case rel => exact ⟨(wrap64 (x5_1 + t493)), (wrap64 (x6_1 + 1)), rsd, rsd, H', ⟨by have := HK1.out; omega⟩, ⟨by (with_reducible repeat (first | refine blk_drewN ?_ _ | refine blk_drew ?_ | refine blk_alloc ?_ _)); exact BK487.out⟩, ⟨tb HB⟩⟩
   replace H := ipt H
   obtain ⟨t491, A8, H⟩ := bn H
   try dsimp only at H
   obtain ⟨t492, A9, H⟩ := bn H
   try dsimp only at H
   have H' := Aside0.mk H
   clear H
   have hz10 := cs2_ BK487
   have p488 : 0 ≤ (x6_1 : Int) := od
   have q488 : x6_1 < (l0_0.length : Int) := od
   obtain ⟨ad488, e488, hx488_0⟩ := Kd.at_int HR0_0.out x6_1 p488 q488
   cases e488
   replace hx488_0 := ox HB hx488_0
   replace p488 := eq_true p488
   replace q488 := eq_true q488
   go_wp2_with (first | ((with_reducible refine gf 125 rfl ?_); refine gL 20 Try.func125 #[.int .i64 (rd l0_0 x6_1)] ?_; (with_reducible refine (spec_ValOk.calls (rd l0_0 x6_1) true _ A6.out).mono ?_); rintro e w' ⟨rfl, ⟨nd, rfl⟩⟩; refine ⟨_, rfl, ?_⟩; have p490 : 0 ≤ (x6_1 : Int) := od; have q490 : x6_1 < (l0_0.length : Int) := od; obtain ⟨ad490, e490, hx490_0⟩ := Kd.at_int HR0_0.out x6_1 p490 q490; obtain rfl : ad488 = ad490 := (by injection e490); replace hx490_0 := ox HB hx490_0; replace p490 := eq_true p490; replace q490 := eq_true q490) | (go_at_call 193; (with_reducible refine (spec_ClassOf.calls (rd l0_0 x6_1) t491 _ A8.out).mono ?_); rintro e w' ⟨rfl, ⟨nd, rfl⟩⟩) | ((with_reducible refine gf 192 rfl ?_); refine gL 31 Try.func192 #[.bool (t491 == a1)] ?_; (with_reducible refine (spec_l1Bit.calls (t491 == a1) t492 _ A9.out).mono ?_); rintro e w' ⟨rfl, ⟨nd, rfl⟩⟩; refine ⟨_, rfl, ?_⟩))
   go_roundg k1
   case measure => have := HK1.out; omega
   case rel => exact ⟨(wrap64 (x5_1 + t492)), (wrap64 (x6_1 + 1)), rsd, rsd, H', ⟨by have := HK1.out; omega⟩, ⟨by (with_reducible repeat (first | refine blk_drewN ?_ _ | refine blk_drew ?_ | refine blk_alloc ?_ _)); exact BK487.out⟩, ⟨tb HB⟩⟩
end Go.Proofs.Ytopikhjcbcpiaaa.Q
section
namespace Go.Proofs.Ytopikhjcbcpiaaa.Q
open Go.RowKit Go.Proofs.YtopikhjcbcpiaaaW.PrintWords Go.Proofs.YtopikhjcbcpiaaaX
def inB (a b c : Int) : Bool := decide (b ≤ a ∧ a ≤ c)
theorem l1In_eq (a b c : Int) : spec_l1In.f a b c = some (inB a b c) := by
  unfold spec_l1In.f inB
  by_cases h : a ≥ b
  · rw [if_pos h]; simp; omega
  · rw [if_neg h]; simp; omega
theorem from_eq (a b c : Int) : impl_from.f a b c = some (inB a b c) := by
  unfold impl_from.f inB
  by_cases h : a ≥ b
  · rw [if_pos h]; simp; omega
  · rw [if_neg h]; simp; omega
end Go.Proofs.Ytopikhjcbcpiaaa.Q
end
namespace Go.Proofs.Ytopikhjcbcpiaaa.Q
open Go.RowKit Go.Proofs.YtopikhjcbcpiaaaW.PrintWords Go.Proofs.YtopikhjcbcpiaaaW.PrintLast Go.Proofs.YtopikhjcbcpiaaaW.PrintMore
attribute [local go_sem] max2_int min2_int max_two min_two max_three min_three max_four min_four   -- for this text's walks alone
set_option linter.unusedVariables false
set_option linter.unusedSimpArgs false
def impl_HowMany.l0 : Nat → Int → Int → List Int → Int → Int → Option (Int)
 | 0, _, _, _, _, _ => none
 | k + 1, x1, x5, x9, x10, x11 => if x11 < x10 then (if 0 ≤ x11 then (if x11 < (x9.length : Int) then ((impl_ValOk.f (rd x9 x11)).bind fun t586 => (if t586 = true then ((impl_ClassOf.f (rd x9 x11)).bind fun t587 => (if t587 = x1 then (impl_HowMany.l0 k x1 (wrap64 (x5 + 1)) x9 x10 (wrap64 (x11 + 1))) else (impl_HowMany.l0 k x1 x5 x9 x10 (wrap64 (x11 + 1))))) else (impl_HowMany.l0 k x1 x5 x9 x10 (wrap64 (x11 + 1))))) else (none)) else (none)) else (some x5)
def impl_HowMany.f (k : Nat) (l0_0 : List Int) (a0_1 : Int) (a1 : Int) : Option (Int) := impl_HowMany.l0 k a1 0 l0_0 (l0_0.length : Int) 0
set_option maxHeartbeats 8000000 in
set_option maxRecDepth 100000 in
theorem impl_HowMany.calls (k : Nat) (A0_0 : Option Addr) (c0_0 : Nat) (l0_0 : List Int) (a0_1 : Int) (a1 : Int) (r : Int) (w : World) (hr0_0 : Kd.C (Kd.int .i64) w A0_0 l0_0.length l0_0) (hc0_0 : l0_0.length ≤ c0_0) (h : impl_HowMany.f k l0_0 a0_1 a1 = some r) :
  Calls Try.prog 163 #[.agg #[.slice A0_0 l0_0.length c0_0, .int .i64 a0_1], .int .i64 a1] w fun e w' => e = .returned (.int .i64 r) ∧ Below w.heap.size w w' := by
 have hu65 := Try.underlying65
 have HR0_0 := Aside0.mk hr0_0
 have HC0_0 := Aside0.mk hc0_0
 clear hr0_0 hc0_0
 have HB := Aside0.mk (Below.refl w.heap.size w)
 have H := h
 clear h
 unfold impl_HowMany.f at H
 have H' := Aside0.mk H
 clear H
 go_enter Try.func163, Try.ntmps163
 go_wp2_with (first | ((with_reducible refine gq 2 rfl ?_); refine bx0 HB (N := 2) (t := 65) ?_; clear HB; intro gb584 w3 BK584 GE584 HB; have hz4 := cs2_ BK584))
 go_loopg [5, 11] k (fun kq v5 v11 w' => ∃ (x5_1 : Int) (x11_1 : Int), v5 = .int .i64 x5_1 ∧ v11 = .int .i64 x11_1 ∧ Aside0 (impl_HowMany.l0 kq a1 x5_1 l0_0 (l0_0.length : Int) x11_1 = some r) ∧ Aside0 (kq ≤ k) ∧ Aside0 (w'.heap[gb584]? = some (.cells #[(.slice A0_0 l0_0.length c0_0), .int .i64 a0_1] 65 (0, 0))) ∧ Aside0 (Below w.heap.size w w'))
 case atStart => exact ⟨(0), (0), rsd, rsd, H', ⟨Nat.le_refl _⟩, ⟨by (with_reducible repeat (first | refine blk_drewN ?_ _ | refine blk_drew ?_ | refine blk_alloc ?_ _)); exact BK584.out⟩, ⟨tb HB⟩⟩
 case round =>
  clear H'
  obtain ⟨x5_1, x11_1, rfl, rfl, HA, HK1, BK584, HB⟩ := hrel
  cases gk with
  | zero => exact absurd HA.out (by simp [impl_HowMany.l0])
  | succ k1 =>
   have H := HA.out
   clear HA
   simp only [impl_HowMany.l0] at H
   revert H; refine icd (fun c5b0 H => ?_) fun c5b0 H => ?neg
   case neg =>
    obtain rfl := oin H
    go_wp2
    go_ret
    exact ⟨er, tb HB⟩
   obtain ⟨c6b0, H⟩ := itd H
   obtain ⟨c7b0, H⟩ := itd H
   obtain ⟨t586, A8, H⟩ := bn H
   try dsimp only at H
   cases t586
   case false =>
    replace H := ipf H
    have H' := Aside0.mk H
    clear H
    have p585 : 0 ≤ (x11_1 : Int) := od
    have q585 : x11_1 < (l0_0.length : Int) := od
    obtain ⟨ad585, e585, hx585_0⟩ := Kd.at_int HR0_0.out x11_1 p585 q585
    cases e585
    replace hx585_0 := ox HB hx585_0
    replace p585 := eq_true p585
    replace q585 := eq_true q585
    go_wp2_with (first | ((with_reducible refine gf 120 rfl ?_); refine gL 16 Try.func120 #[.int .i64 (rd l0_0 x11_1)] ?_; (with_reducible refine (impl_ValOk.calls (rd l0_0 x11_1) false _ A8.out).mono ?_); rintro e w' ⟨rfl, ⟨nd, rfl⟩⟩; refine ⟨_, rfl, ?_⟩))
    go_roundg k1
    case measure => have := HK1.out; omega
    case rel => exact ⟨(x5_1), (wrap64 (x11_1 + 1)), rsd, rsd, H', ⟨by have := HK1.out; omega⟩, ⟨by (with_reducible repeat (first | refine blk_drewN ?_ _ | refine blk_drew ?_ | refine blk_alloc ?_ _)); exact BK584.out⟩, ⟨tb HB⟩⟩
   replace H := ipt H
   obtain ⟨t587, A10, H⟩ := bn H
   try dsimp only at H
   by_cases c11 : t587 = a1
   case neg =>
    rw [if_neg c11] at H
    have c11b0 : (t587 == a1) = false := beq_eq_false_iff_ne.mpr c11
    have c11b1 : (t587 != a1) = true := bne_iff_ne.mpr c11
    have H' := Aside0.mk H
    clear H
    have p585 : 0 ≤ (x11_1 : Int) := od
    have q585 : x11_1 < (l0_0.length : Int) := od
    obtain ⟨ad585, e585, hx585_0⟩ := Kd.at_int HR0_0.out x11_1 p585 q585
    cases e585
    replace hx585_0 := ox HB hx585_0
    replace p585 := eq_true p585
    replace q585 := eq_true q585
    go_wp2_with (first | ((with_reducible refine gf 120 rfl ?_); refine gL 16 Try.func120 #[.int .i64 (rd l0_0 x11_1)] ?_; (with_reducible refine (impl_ValOk.calls (rd l0_0 x11_1) true _ A8.out).mono ?_); rintro e w' ⟨rfl, ⟨nd, rfl⟩⟩; refine ⟨_, rfl, ?_⟩) | (go_at_call 177; (with_reducible refine (impl_ClassOf.calls (rd l0_0 x11_1) t587 _ A10.out).mono ?_); rintro e w' ⟨rfl, ⟨nd, rfl⟩⟩))
    go_roundg k1
    case measure => have := HK1.out; omega
    case rel => exact ⟨(x5_1), (wrap64 (x11_1 + 1)), rsd, rsd, H', ⟨by have := HK1.out; omega⟩, ⟨by (with_reducible repeat (first | refine blk_drewN ?_ _ | refine blk_drew ?_ | refine blk_alloc ?_ _)); exact BK584.out⟩, ⟨tb HB⟩⟩
   rw [if_pos c11] at H
   have c11b0 : (t587 == a1) = true := beq_iff_eq.mpr c11
   have c11b1 : (t587 != a1) = false := bne_eq_false_iff_eq.mpr c11
   clear c11
   have H' := Aside0.mk H
   clear H
   have p585 : 0 ≤ (x11_1 : Int) := od
   have q585 : x11_1 < (l0_0.length : Int) := od
   obtain ⟨ad585, e585, hx585_0⟩ := Kd.at_int HR0_0.out x11_1 p585 q585
   cases e585
   replace hx585_0 := ox HB hx585_0
   replace p585 := eq_true p585
   replace q585 := eq_true q585
   go_wp2_with (first | ((with_reducible refine gf 120 rfl ?_); refine gL 16 Try.func120 #[.int .i64 (rd l0_0 x11_1)] ?_; (with_reducible refine (impl_ValOk.calls (rd l0_0 x11_1) true _ A8.out).mono ?_); rintro e w' ⟨rfl, ⟨nd, rfl⟩⟩; refine ⟨_, rfl, ?_⟩) | (go_at_call 177; (with_reducible refine (impl_ClassOf.calls (rd l0_0 x11_1) t587 _ A10.out).mono ?_); rintro e w' ⟨rfl, ⟨nd, rfl⟩⟩))
   go_roundg k1
   case measure => have := HK1.out; omega
   case rel => exact ⟨(wrap64 (x5_1 + 1)), (wrap64 (x11_1 + 1)), rsd, rsd, H', ⟨by have := HK1.out; omega⟩, ⟨by (with_reducible repeat (first | refine blk_drewN ?_ _ | refine blk_drew ?_ | refine blk_alloc ?_ _)); exact BK584.out⟩, ⟨tb HB⟩⟩
def impl_ThreadOk_1.f (k : Nat) (a0_0 : Int) (a0_1 : Int) (a0_2 : Int) : Option (Bool) := (impl_OpOk.f k a0_0 a0_1 a0_2).bind fun t221 => (some (!t221))
theorem impl_ThreadOk_1.mono : ∀ a0 a1 a2 k, LeO (impl_ThreadOk_1.f k a0 a1 a2) (impl_ThreadOk_1.f (k + 1) a0 a1 a2) := by
 intro a0 a1 a2 k
 unfold impl_ThreadOk_1.f
 repeat' first
   | (with_reducible exact impl_OpOk.mono _ _ _ _)
   | (with_reducible exact LeO.refl _)
   | (with_reducible exact LeO.none _)
   | (with_reducible refine LeO.ite ?_ ?_)
   | (with_reducible refine LeO.bind ?_ (fun _ => ?_))
   | exact impl_OpOk.mono _ _ _ _
   | exact LeO.none _
   | refine LeO.ite ?_ ?_
   | refine LeO.bind ?_ (fun _ => ?_)
set_option maxHeartbeats 8000000 in
set_option maxRecDepth 100000 in
theorem impl_ThreadOk_1.calls (k : Nat) (a0_0 : Int) (a0_1 : Int) (a0_2 : Int) (r : Bool) (w : World) (h : impl_ThreadOk_1.f k a0_0 a0_1 a0_2 = some r) :
  Calls Try.prog 84 #[.agg #[.int .i64 a0_0, .int .i64 a0_1, .int .i64 a0_2]] w fun e w' => e = .returned (.bool r) ∧ Below w.heap.size w w' := by
 have hu68 := Try.underlying68
 have HB := Aside0.mk (Below.refl w.heap.size w)
 have H := h
 clear h
 unfold impl_ThreadOk_1.f at H
 obtain ⟨t221, A2, H⟩ := bn H
 try dsimp only at H
 obtain rfl := oin H
 go_enter Try.func84, Try.ntmps84
 go_wp2_with (first | ((with_reducible refine gq 1 rfl ?_); refine bx0 HB (N := 1) (t := 68) ?_; clear HB; intro gb220 w3 BK220 GE220 HB; have hz4 := cs3_ BK220) | ((with_reducible refine gf 53 rfl ?_); refine gL 4 Try.func53 #[.agg #[.int .i64 a0_0, .int .i64 a0_1, .int .i64 a0_2]] ?_; (with_reducible refine (impl_OpOk.calls k a0_0 a0_1 a0_2 t221 _ A2.out).mono ?_); rintro e w5 ⟨rfl, hb⟩; refine ⟨_, rfl, ?_⟩; replace BK220 := bb BK220 hb; replace HB := bs HB hb; (try clear hb)))
 go_ret
 exact ⟨er, tb HB⟩
def impl_MemOk_1.f (k : Nat) (a0_0 : Int) (a0_1 : Int) (l0_2 : List (S166)) (a0_3 : Int) (l0_4 : List Int) : Option (Bool) := (impl_DescOk.f k a0_0 a0_1 l0_2 a0_3 l0_4).bind fun t1105 => (some (!t1105))
theorem impl_MemOk_1.mono : ∀ a0 a1 a2 a3 a4 k, LeO (impl_MemOk_1.f k a0 a1 a2 a3 a4) (impl_MemOk_1.f (k + 1) a0 a1 a2 a3 a4) := by
 intro a0 a1 a2 a3 a4 k
 unfold impl_MemOk_1.f
 repeat' first
   | (with_reducible exact impl_DescOk.mono _ _ _ _ _ _)
   | (with_reducible exact LeO.refl _)
   | (with_reducible exact LeO.none _)
   | (with_reducible refine LeO.ite ?_ ?_)
   | (with_reducible refine LeO.bind ?_ (fun _ => ?_))
   | exact impl_DescOk.mono _ _ _ _ _ _
   | exact LeO.none _
   | refine LeO.ite ?_ ?_
   | refine LeO.bind ?_ (fun _ => ?_)
set_option maxHeartbeats 8000000 in
set_option maxRecDepth 100000 in
theorem impl_MemOk_1.calls (k : Nat) (a0_0 : Int) (a0_1 : Int) (A0_2 : Option Addr) (c0_2 : Nat) (l0_2 : List (S166)) (a0_3 : Int) (A0_4 : Option Addr) (c0_4 : Nat) (l0_4 : List Int) (r : Bool) (w : World) (hr0_2 : Kd.C k166 w A0_2 l0_2.length l0_2) (hc0_2 : l0_2.length ≤ c0_2) (hr0_4 : Kd.C (Kd.int .i64) w A0_4 l0_4.length l0_4) (hc0_4 : l0_4.length ≤ c0_4) (h : impl_MemOk_1.f k a0_0 a0_1 l0_2 a0_3 l0_4 = some r) :
  Calls Try.prog 181 #[.agg #[.int .i64 a0_0, .int .i64 a0_1, .slice A0_2 l0_2.length c0_2, .int .i64 a0_3, .slice A0_4 l0_4.length c0_4]] w fun e w' => e = .returned (.bool r) ∧ Below w.heap.size w w' := by
 have hu145 := Try.underlying145
 have HR0_2 := Aside0.mk hr0_2
 have HC0_2 := Aside0.mk hc0_2
 clear hr0_2 hc0_2
 have HR0_4 := Aside0.mk hr0_4
 have HC0_4 := Aside0.mk hc0_4
 clear hr0_4 hc0_4
 have HB := Aside0.mk (Below.refl w.heap.size w)
 have H := h
 clear h
 unfold impl_MemOk_1.f at H
 obtain ⟨t1105, A2, H⟩ := bn H
 try dsimp only at H
 obtain rfl := oin H
 go_enter Try.func181, Try.ntmps181
 go_wp2_with (first | ((with_reducible refine gq 1 rfl ?_); refine bx0 HB (N := 1) (t := 145) ?_; clear HB; intro gb1104 w3 BK1104 GE1104 HB; have hz4 := cs5_ BK1104) | ((with_reducible refine gf 182 rfl ?_); refine gL 4 Try.func182 #[.agg #[.int .i64 a0_0, .int .i64 a0_1, .slice A0_2 l0_2.length c0_2, .int .i64 a0_3, .slice A0_4 l0_4.length c0_4]] ?_; (with_reducible refine (impl_DescOk.calls k a0_0 a0_1 _ _ l0_2 a0_3 _ _ l0_4 t1105 _ (kc HR0_2 HB) HC0_2.out (kc HR0_4 HB) HC0_4.out A2.out).mono ?_); rintro e w5 ⟨rfl, hb⟩; refine ⟨_, rfl, ?_⟩; replace BK1104 := bb BK1104 hb; replace HB := bs HB hb; (try clear hb)))
 go_ret
 exact ⟨er, tb HB⟩
def laws_szDescS.l0 : Nat → List (S138) → Int → Int → Option (Int)
 | 0, _, _, _ => none
 | k + 1, x0, x1, x5 => if x5 < (x0.length : Int) then (if 0 ≤ x5 then ((laws_szDesc.f ((rd_T138 x0 x5).f0) ((rd_T138 x0 x5).f1) ((rd_T138 x0 x5).f2) ((rd_T138 x0 x5).f3.f0) ((rd_T138 x0 x5).f3.f1) x1).bind fun t298 => (if t298 < 0 then (some (-1)) else (laws_szDescS.l0 k x0 t298 (wrap64 (x5 + 1))))) else (none)) else (some x1)
def laws_szDescS.f (k : Nat) (l0 : List (S138)) (a1 : Int) : Option (Int) := if (wrap64 (a1 - (l0.length : Int))) < 0 then (some (-1)) else (laws_szDescS.l0 k l0 (wrap64 (a1 - (l0.length : Int))) 0)
set_option maxHeartbeats 8000000 in
set_option maxRecDepth 100000 in
theorem laws_szDescS.calls (k : Nat) (A0 : Option Addr) (c0 : Nat) (l0 : List (S138)) (a1 : Int) (r : Int) (w : World) (hr0 : Kd.C k138 w A0 l0.length l0) (hc0 : l0.length ≤ c0) (h : laws_szDescS.f k l0 a1 = some r) :
  Calls Try.prog 21 #[.slice A0 l0.length c0, .int .i64 a1] w fun e w' => e = .returned (.int .i64 r) ∧ Below w.heap.size w w' := by
 have hu138 := Try.underlying138
 have HR0 := Aside0.mk hr0
 have HC0 := Aside0.mk hc0
 clear hr0 hc0
 have HB := Aside0.mk (Below.refl w.heap.size w)
 have H := h
 clear h
 unfold laws_szDescS.f at H
 revert H; refine icd (fun c3b0 H => ?pos) fun c3b0 H => ?_
 case pos =>
  obtain rfl := oin H
  go_enter Try.func21, Try.ntmps21
  go_wp2
  go_ret
  exact ⟨er, tb HB⟩
 have H' := Aside0.mk H
 clear H
 go_enter Try.func21, Try.ntmps21
 go_wp2
 go_loopg [1, 5] k (fun kq v1 v5 w' => ∃ (x1_1 : Int) (x5_1 : Int), v1 = .int .i64 x1_1 ∧ v5 = .int .i64 x5_1 ∧ Aside0 (laws_szDescS.l0 kq l0 x1_1 x5_1 = some r) ∧ Aside0 (kq ≤ k) ∧ Aside0 (Below w.heap.size w w'))
 case atStart => exact ⟨(wrap64 (a1 - (l0.length : Int))), (0), rsd, rsd, H', ⟨Nat.le_refl _⟩, ⟨tb HB⟩⟩
 case round =>
  clear H'
  obtain ⟨x1_1, x5_1, rfl, rfl, HA, HK1, HB⟩ := hrel
  cases gk with
  | zero => exact absurd HA.out (by simp [laws_szDescS.l0])
  | succ k1 =>
   have H := HA.out
   clear HA
   simp only [laws_szDescS.l0] at H
   revert H; refine icd (fun c4b0 H => ?_) fun c4b0 H => ?neg
   case neg =>
    obtain rfl := oin H
    go_wp2
    go_ret
    exact ⟨er, tb HB⟩
   obtain ⟨c5b0, H⟩ := itd H
   obtain ⟨t298, A6, H⟩ := bn H
   try dsimp only at H
   revert H; refine icd (fun c7b0 H => ?_) fun c7b0 H => ?neg
   case neg =>
    have H' := Aside0.mk H
    clear H
    have p297 : 0 ≤ (x5_1 : Int) := od
    have q297 : x5_1 < (l0.length : Int) := od
    obtain ⟨ad297, A297_2, c297_2, A297_4, c297_4, e297, hx297, hl297_2, hi297_2, hl297_4, hi297_4⟩ := att138 HR0.out x5_1 p297 q297
    cases e297
    replace hx297 := ox5 HB hx297
    have HR297_2 := Aside0.mk hi297_2
    have HC297_2 := Aside0.mk hl297_2
    clear hi297_2 hl297_2
    have HR297_4 := Aside0.mk hi297_4
    have HC297_4 := Aside0.mk hl297_4
    clear hi297_4 hl297_4
    replace p297 := eq_true p297
    replace q297 := eq_true q297
    go_wp2_with (first | ((with_reducible refine gf 95 rfl ?_); refine gL 23 Try.func95 #[.agg #[.int .i64 ((rd_T138 l0 x5_1).f0), .int .i64 ((rd_T138 l0 x5_1).f1), .slice A297_2 ((rd_T138 l0 x5_1).f2).length c297_2, .int .i64 ((rd_T138 l0 x5_1).f3.f0), .slice A297_4 ((rd_T138 l0 x5_1).f3.f1).length c297_4], .int .i64 x1_1] ?_; (with_reducible refine (laws_szDesc.calls ((rd_T138 l0 x5_1).f0) ((rd_T138 l0 x5_1).f1) _ _ ((rd_T138 l0 x5_1).f2) ((rd_T138 l0 x5_1).f3.f0) _ _ ((rd_T138 l0 x5_1).f3.f1) x1_1 t298 _ (kc HR297_2 HB) HC297_2.out (kc HR297_4 HB) HC297_4.out A6.out).mono ?_); rintro e w9 ⟨rfl, hb⟩; refine ⟨_, rfl, ?_⟩; replace HB := bs HB hb; (try clear hb)))
    go_roundg k1
    case measure => have := HK1.out; omega
    case rel => exact ⟨(t298), (wrap64 (x5_1 + 1)), rsd, rsd, H', ⟨by have := HK1.out; omega⟩, ⟨tb HB⟩⟩
   obtain rfl := oin H
   have p297 : 0 ≤ (x5_1 : Int) := od
   have q297 : x5_1 < (l0.length : Int) := od
   obtain ⟨ad297, A297_2, c297_2, A297_4, c297_4, e297, hx297_0, hx297_1, hx297_2, hx297_3, hx297_4, hl297_2, hi297_2, hl297_4, hi297_4⟩ := at_T138 HR0.out x5_1 p297 q297
   cases e297
   replace hx297_0 := ox HB hx297_0
   replace hx297_1 := ox HB hx297_1
   replace hx297_2 := ox HB hx297_2
   replace hx297_3 := ox HB hx297_3
   replace hx297_4 := ox HB hx297_4
   have HR297_2 := Aside0.mk hi297_2
   have HC297_2 := Aside0.mk hl297_2
   clear hi297_2 hl297_2
   have HR297_4 := Aside0.mk hi297_4
   have HC297_4 := Aside0.mk hl297_4
   clear hi297_4 hl297_4
   replace p297 := eq_true p297
   replace q297 := eq_true q297
   go_wp2_with (first | ((with_reducible refine gf 95 rfl ?_); refine gL 23 Try.func95 #[.agg #[.int .i64 ((rd_T138 l0 x5_1).f0), .int .i64 ((rd_T138 l0 x5_1).f1), .slice A297_2 ((rd_T138 l0 x5_1).f2).length c297_2, .int .i64 ((rd_T138 l0 x5_1).f3.f0), .slice A297_4 ((rd_T138 l0 x5_1).f3.f1).length c297_4], .int .i64 x1_1] ?_; (with_reducible refine (laws_szDesc.calls ((rd_T138 l0 x5_1).f0) ((rd_T138 l0 x5_1).f1) _ _ ((rd_T138 l0 x5_1).f2) ((rd_T138 l0 x5_1).f3.f0) _ _ ((rd_T138 l0 x5_1).f3.f1) x1_1 t298 _ (kc HR297_2 HB) HC297_2.out (kc HR297_4 HB) HC297_4.out A6.out).mono ?_); rintro e w8 ⟨rfl, hb⟩; refine ⟨_, rfl, ?_⟩; replace HB := bs HB hb; (try clear hb)))
   go_ret
   exact ⟨er, tb HB⟩
def laws_toDescS.l0 : Nat → List (S138) → List (S145) → Int → Option ((List (S145)))
 | 0, _, _, _ => none
 | k + 1, x0, x3, x4 => if x4 < (x0.length : Int) then (if 0 ≤ x4 then ((laws_toDesc.f k ((rd_T138 x0 x4).f0) ((rd_T138 x0 x4).f1) ((rd_T138 x0 x4).f2) ((rd_T138 x0 x4).f3.f0) ((rd_T138 x0 x4).f3.f1)).bind fun bt363 => (if x4 < (x3.length : Int) then (laws_toDescS.l0 k x0 (x3.set (x4 : Int).toNat (⟨bt363.1, bt363.2.1, bt363.2.2.1, (⟨bt363.2.2.2.1, bt363.2.2.2.2⟩ : S70)⟩ : S145)) (wrap64 (x4 + 1))) else (none))) else (none)) else (some x3)
def laws_toDescS.f (k : Nat) (l0 : List (S138)) : Option ((List (S145))) := if 0 ≤ (l0.length : Int) then (if ((l0.length : Int) : Int).toNat ≤ 3909374676536 then (laws_toDescS.l0 k l0 (List.replicate ((l0.length : Int) : Int).toNat z145) 0) else (none)) else (none)
set_option maxHeartbeats 8000000 in
set_option maxRecDepth 100000 in
theorem laws_toDescS.calls (k : Nat) (A0 : Option Addr) (c0 : Nat) (l0 : List (S138)) (r : List (S145)) (w : World) (hr0 : Kd.C k138 w A0 l0.length l0) (hc0 : l0.length ≤ c0) (h : laws_toDescS.f k l0 = some r) :
  Calls Try.prog 24 #[.slice A0 l0.length c0] w fun e w' => ∃ v0_ : Value, e = .returned (v0_) ∧ Kd.S k145 145 w' w.heap.size (fun _ => True) v0_ r ∧ Below w.heap.size w w' := by
 have hu138 := Try.underlying138
 have hu145 := Try.underlying145
 have HR0 := Aside0.mk hr0
 have HC0 := Aside0.mk hc0
 clear hr0 hc0
 have HB := Aside0.mk (Below.refl w.heap.size w)
 have H := h
 clear h
 unfold laws_toDescS.f at H
 obtain ⟨c2b0, c2b1, H⟩ := itb H
 obtain ⟨c3b0, c3b1, H⟩ := itb H
 obtain ⟨y359, hy359⟩ : ∃ y_ : List (S145), y_ = (List.replicate ((l0.length : Int) : Int).toNat z145) := ⟨_, rfl⟩
 replace H : (laws_toDescS.l0 k l0 y359 0) = some r := by first | (rw [hy359]; with_reducible exact H) | (have H2_ := (Option.bind_some _ _).symm.trans H; rw [hy359]; with_reducible exact H2_) | (have H2_ := (Option.bind_some _ _).symm.trans H; with_reducible exact H2_) | with_reducible exact H | (rw [hy359]; exact H) | exact H
 have Ny359 := Aside0.mk hy359
 clear hy359
 have H' := Aside0.mk H
 clear H
 go_enter Try.func24, Try.ntmps24
 go_wp2_with (first | ((with_reducible refine gq 7 rfl ?_); refine Kd.S_make k145 _ 145 rfl (N := 7) rfl 49 _ _ rfl (l0.length : Int) rfl rfl Try.underlying49 (.agg #[(.int .i64 0), (.int .i64 0), (.slice none 0 0), (.int .i64 0), (.slice none 0 0)]) 72 info145 rfl (by decide) (by omega) z145 (ok := fun _ => True) (okp := fun _ => True) (k145_mkM _ _ _ z145 (Kd.R_nil _ _ _ _ _) (Kd.R_nil _ _ _ _ _)) (fun _ hk => hk) trivial (od) (Nat.le_trans (Nat.mul_le_mul_right _ (od : (l0.length : Int).toNat ≤ 3909374676536)) (by omega)) (Below.refl _ _) (Nat.le_refl _) ?_; intro v360 w4 ho5 hb hg_ hnew_; clear hg_ hnew_; (first | rw [← Ny359.out] at ho5 | (simp only [Int.reduceToNat] at ho5; rw [← Ny359.out] at ho5)); have HO361 := Aside0.mk (Kd.S_lower ho5 (below_size (tb HB))); replace HB := bs HB hb; clear hb ho5))
 go_loopg [4] k (fun kq v4 w' => ∃ (x3_1 : List (S145)) (x4_1 : Int), v4 = .int .i64 x4_1 ∧ Aside0 (laws_toDescS.l0 kq l0 x3_1 x4_1 = some r) ∧ Aside0 (kq ≤ k) ∧ Aside0 (Kd.S k145 145 w' w.heap.size (fun _ => True) v360 x3_1) ∧ Aside0 (Below w.heap.size w w'))
 case atStart => exact ⟨(y359), (0), rsd, H', ⟨Nat.le_refl _⟩, ⟨by (with_reducible repeat (first | apply Kd.S_alloc | apply Kd.S_drewN | apply Kd.S_drew)); exact HO361.out⟩, ⟨tb HB⟩⟩
 case round =>
  clear H'
  obtain ⟨x3_1, x4_1, rfl, HA, HK1, HO_3, HB⟩ := hrel
  cases gk with
  | zero => exact absurd HA.out (by simp [laws_toDescS.l0])
  | succ k1 =>
   have H := HA.out
   clear HA
   simp only [laws_toDescS.l0] at H
   revert H; refine icd (fun c6b0 H => ?_) fun c6b0 H => ?neg
   case neg =>
    obtain rfl := oin H
    go_wp2
    go_ret
    exact ⟨_, er, by (with_reducible repeat (first | apply Kd.S_alloc | apply Kd.S_drewN | apply Kd.S_drew)); exact HO_3.out, tb HB⟩
   obtain ⟨c7b0, H⟩ := itd H
   obtain ⟨⟨t363, t364, t365, t368, t369⟩, A8, H⟩ := bn H
   try dsimp only at H
   obtain ⟨c9b0, H⟩ := itd H
   obtain ⟨y372, hy372⟩ : ∃ y_ : List (S145), y_ = (x3_1.set (x4_1 : Int).toNat (⟨t363, t364, t365, (⟨t368, t369⟩ : S70)⟩ : S145)) := ⟨_, rfl⟩
   replace H : (laws_toDescS.l0 k1 l0 y372 (wrap64 (x4_1 + 1))) = some r := by first | (rw [hy372]; with_reducible exact H) | (have H2_ := (Option.bind_some _ _).symm.trans H; rw [hy372]; with_reducible exact H2_) | (have H2_ := (Option.bind_some _ _).symm.trans H; with_reducible exact H2_) | with_reducible exact H | (rw [hy372]; exact H) | exact H
   have Ny372 := Aside0.mk hy372
   clear hy372
   have H' := Aside0.mk H
   clear H
   have p362 : 0 ≤ (x4_1 : Int) := od
   have q362 : x4_1 < (l0.length : Int) := od
   obtain ⟨ad362, A362_2, c362_2, A362_4, c362_4, e362, hx362, hl362_2, hi362_2, hl362_4, hi362_4⟩ := att138 HR0.out x4_1 p362 q362
   cases e362
   replace hx362 := ox5 HB hx362
   have HR362_2 := Aside0.mk hi362_2
   have HC362_2 := Aside0.mk hl362_2
   clear hi362_2 hl362_2
   have HR362_4 := Aside0.mk hi362_4
   have HC362_4 := Aside0.mk hl362_4
   clear hi362_4 hl362_4
   replace p362 := eq_true p362
   replace q362 := eq_true q362
   go_wp2_with (first | ((with_reducible refine gf 98 rfl ?_); refine gL 20 Try.func98 #[.agg #[.int .i64 ((rd_T138 l0 x4_1).f0), .int .i64 ((rd_T138 l0 x4_1).f1), .slice A362_2 ((rd_T138 l0 x4_1).f2).length c362_2, .int .i64 ((rd_T138 l0 x4_1).f3.f0), .slice A362_4 ((rd_T138 l0 x4_1).f3.f1).length c362_4]] ?_; (with_reducible refine (laws_toDesc.calls k1 ((rd_T138 l0 x4_1).f0) ((rd_T138 l0 x4_1).f1) _ _ ((rd_T138 l0 x4_1).f2) ((rd_T138 l0 x4_1).f3.f0) _ _ ((rd_T138 l0 x4_1).f3.f1) t363 t364 t365 t368 t369 _ (kc HR362_2 HB) HC362_2.out (kc HR362_4 HB) HC362_4.out A8.out).mono ?_); rintro e w11 ⟨v366, v370, rfl, ho0, ho1, hb⟩; refine ⟨_, rfl, ?_⟩; replace HO_3 := Aside0.mk (Kd.S_mono (Kd.S_told (Kd.S_told (Kd.S_old (by (with_reducible repeat (first | apply Kd.S_alloc | apply Kd.S_drewN | apply Kd.S_drew)); exact HO_3.out) hb) (Kd.R_base ho0)) (Kd.R_base ho1)) (fun _ h_ => h_.1)); have HO367 := Aside0.mk (Kd.R_lower ho0 (below_size (tb HB))); have HO371 := Aside0.mk (Kd.R_lower ho1 (below_size (tb HB))); replace HB := bs HB hb; (try clear hb); (try clear ho0); (try clear ho1); have p10 : 0 ≤ (x4_1 : Int) := od; have q10 : (x4_1 : Int) < ((x3_1.length : Int) : Int) := od; obtain ⟨go10, co10, eo10, gb10, gl10, cl10, HG10⟩ := Kd.S_form HO_3.out (by omega); (first | cases eo10 | (injection eo10 with ea_ en_ ec_; (first | subst ea_ | (injection ea_ with ea_; subst ea_)); subst ec_; clear en_)); have GB10 := Aside0.mk gb10; have GG10 := Aside0.mk HG10; clear gb10 gl10 HG10; obtain ⟨_, ce10, hcl10, hM10, hcc10, hfr10, _, _⟩ := Kd.S_elem HO_3.out z145 (x4_1 : Int) p10 q10; obtain ⟨ve10_2, ve10_4, rfl, ge10_2, ge10_4⟩ := k145_openM hM10; have hx10_0 : w11.cell? ⟨go10, (x4_1 : Int).toNat * 5, none⟩ = some (.int .i64 ((rd_T145 x3_1 x4_1).f0)) := hcc10 0 _ rfl; have hx10_1 : w11.cell? ⟨go10, (x4_1 : Int).toNat * 5 + 1, none⟩ = some (.int .i64 ((rd_T145 x3_1 x4_1).f1)) := hcc10 1 _ rfl; have hx10_2 : w11.cell? ⟨go10, (x4_1 : Int).toNat * 5 + 2, none⟩ = some (ve10_2) := hcc10 2 _ rfl; have hx10_3 : w11.cell? ⟨go10, (x4_1 : Int).toNat * 5 + 3, none⟩ = some (.int .i64 ((rd_T145 x3_1 x4_1).f3.f0)) := hcc10 3 _ rfl; have hx10_4 : w11.cell? ⟨go10, (x4_1 : Int).toNat * 5 + 4, none⟩ = some (ve10_4) := hcc10 4 _ rfl; have hf10_0 : w11.frozen? ⟨go10, (x4_1 : Int).toNat * 5, none⟩ = false := hfr10 0; have hf10_1 : w11.frozen? ⟨go10, (x4_1 : Int).toNat * 5 + 1, none⟩ = false := hfr10 1; have hf10_2 : w11.frozen? ⟨go10, (x4_1 : Int).toNat * 5 + 2, none⟩ = false := hfr10 2; have hf10_3 : w11.frozen? ⟨go10, (x4_1 : Int).toNat * 5 + 3, none⟩ = false := hfr10 3; have hf10_4 : w11.frozen? ⟨go10, (x4_1 : Int).toNat * 5 + 4, none⟩ = false := hfr10 4; clear hcl10 hcc10 hfr10 hM10; replace p10 := eq_true p10; replace q10 := eq_true q10; obtain ⟨Ao14, co14, eo14⟩ := Kd.R_slice HO367.out; subst eo14; obtain ⟨Ao15, co15, eo15⟩ := Kd.R_slice HO371.out; subst eo15; have n_ := Aside0.mk (Kd.S_mono (ok' := (fun k_ => some k_ ≠ (.slice Ao14 t365.length co14 : Value).ownBlock ∧ some k_ ≠ (.slice Ao15 t369.length co15 : Value).ownBlock)) HO_3.out (fun k_ hk => ⟨hk.1.2, hk.2⟩)); clear HO_3; have HO_3 := n_; clear n_; have HX12 := Aside0.mk (show Kd.S k145 145 w11 w.heap.size (fun k_ => ((fun _ => True)) k_ ∧ ¬ ((fun k_ => some k_ = (.slice Ao14 t365.length co14 : Value).ownBlock ∨ some k_ = (.slice Ao15 t369.length co15 : Value).ownBlock)) k_) (.slice (some ⟨go10, 0, none⟩) x3_1.length co10) x3_1 from (by (with_reducible repeat (first | apply Kd.S_alloc | apply Kd.S_drewN | apply Kd.S_drew)); exact Kd.S_mono HO_3.out (fun k_ hk => ⟨trivial, fun e_ => e_.elim (fun h_ => hk.1 h_) (fun h_ => hk.2 h_)⟩))); obtain ⟨oki12, ce12, hcl12, hM12, hcc12, hfr12, hoki12, hH12⟩ := Kd.S_elem HX12.out z145 (x4_1 : Int) (od) (by have h_ : (x4_1 : Int) < ((x3_1.length : Int) : Int) := od; first | exact h_ | (have e_ := (Kd.S_reads' HO_3.out).1; omega) | simpa using h_); obtain ⟨ve12_2, ve12_4, rfl, ge12_2, ge12_4⟩ := k145_openM hM12; have HP12 := Kd.S_seg hH12 (od) (by have h_ : (x4_1 : Int) < ((x3_1.length : Int) : Int) := od; first | exact h_ | (have e_ := (Kd.S_reads' HO_3.out).1; omega) | simpa using h_) (seg := [.int .i64 t363, .int .i64 t364, .slice Ao14 t365.length co14, .int .i64 t368, .slice Ao15 t369.length co15]) (j := 0) (show 5 ≤ 5 from by decide) (x' := (⟨t363, t364, t365, (⟨t368, t369⟩ : S70)⟩ : S145)) (k145_mkM _ _ _ (⟨t363, t364, t365, (⟨t368, t369⟩ : S70)⟩ : S145) (Kd.R_mono (Kd.R_tight rfl (Kd.R_mono (ok' := fun k_ => ((fun _ => True)) k_ ∧ k_ ≠ go10) (Kd.R_apart' (HO367.out) (Kd.S_typed HO_3.out) (by decide)) (fun k_ hk => ⟨trivial, fun e_ => (hk.2) (by rw [e_]; rfl)⟩))) (fun _ h_ => Or.inr (Or.inl h_))) (Kd.R_mono (Kd.R_tight rfl (Kd.R_mono (ok' := fun k_ => ((fun _ => True)) k_ ∧ k_ ≠ go10) (Kd.R_apart' (HO371.out) (Kd.S_typed HO_3.out) (by decide)) (fun k_ hk => ⟨trivial, fun e_ => (hk.2) (by rw [e_]; rfl)⟩))) (fun _ h_ => Or.inr (Or.inr (h_))))) (fun _ hk => hk) (fun k_ hk_ => hk_.elim (fun h_ => ((Kd.R_mono (ok' := fun k_ => ((fun _ => True)) k_ ∧ k_ ≠ go10) (Kd.R_apart' (HO367.out) (Kd.S_typed HO_3.out) (by decide)) (fun k_ hk => ⟨trivial, fun e_ => (hk.2) (by rw [e_]; rfl)⟩))).1 k_ h_.symm) (fun h_ => ((Kd.R_mono (ok' := fun k_ => ((fun _ => True)) k_ ∧ k_ ≠ go10) (Kd.R_apart' (HO371.out) (Kd.S_typed HO_3.out) (by decide)) (fun k_ hk => ⟨trivial, fun e_ => (hk.2) (by rw [e_]; rfl)⟩))).1 k_ h_.symm)); have hx12_0 := hcc12 0 _ rfl; (try simp only [show (k145).sz = 5 from rfl, Nat.mul_one, Nat.add_zero] at hx12_0); have hf12_0 := hfr12 0; (try simp only [show (k145).sz = 5 from rfl, Nat.mul_one, Nat.add_zero] at hf12_0); have hx12_1 := hcc12 1 _ rfl; (try simp only [show (k145).sz = 5 from rfl, Nat.mul_one, Nat.add_zero] at hx12_1); have hf12_1 := hfr12 1; (try simp only [show (k145).sz = 5 from rfl, Nat.mul_one, Nat.add_zero] at hf12_1); have hx12_2 := hcc12 2 _ rfl; (try simp only [show (k145).sz = 5 from rfl, Nat.mul_one, Nat.add_zero] at hx12_2); have hf12_2 := hfr12 2; (try simp only [show (k145).sz = 5 from rfl, Nat.mul_one, Nat.add_zero] at hf12_2); have hx12_3 := hcc12 3 _ rfl; (try simp only [show (k145).sz = 5 from rfl, Nat.mul_one, Nat.add_zero] at hx12_3); have hf12_3 := hfr12 3; (try simp only [show (k145).sz = 5 from rfl, Nat.mul_one, Nat.add_zero] at hf12_3); have hx12_4 := hcc12 4 _ rfl; (try simp only [show (k145).sz = 5 from rfl, Nat.mul_one, Nat.add_zero] at hx12_4); have hf12_4 := hfr12 4; (try simp only [show (k145).sz = 5 from rfl, Nat.mul_one, Nat.add_zero] at hf12_4); clear hcl12 hcc12 hfr12 hM12 hoki12 hH12) | ((with_reducible refine gate_store (t := 145) (p := 21) rfl ?_); refine store_event (t := 145) (p := 21) (v := ?vo_w13) (w1 := (((((w11.setCell ⟨go10, (x4_1 : Int).toNat * 5, none⟩ (.int .i64 t363)).setCell ⟨go10, (x4_1 : Int).toNat * 5 + 1, none⟩ (.int .i64 t364)).setCell ⟨go10, (x4_1 : Int).toNat * 5 + 2, none⟩ (.slice Ao14 t365.length co14)).setCell ⟨go10, (x4_1 : Int).toNat * 5 + 3, none⟩ (.int .i64 t368)).setCell ⟨go10, (x4_1 : Int).toNat * 5 + 4, none⟩ (.slice Ao15 t369.length co15))) ?hg ?ho ?hn ?hr ?_; (case ho => rfl); (case hg => rfl); (case hn => rfl); (case hr => first | (go_simp; done) | (go_simp; rfl)); intro w13 hw; have hg : w11.grownBy w13 (some go10) := (by rw [hw]; exact HP12.2); have hp_ : Kd.S k145 145 w13 w.heap.size (fun _ => True) (.slice (some ⟨go10, 0, none⟩) x3_1.length co10) y372 := (by rw [hw, Ny372.out]; exact HP12.1); clear HP12; replace HO_3 := Aside0.mk (hp_); replace HB := Aside0.mk ((by rw [hw]; exact below_set (below_set (below_set (below_set (below_set (HB.out) GB10.out) GB10.out) GB10.out) GB10.out) GB10.out : Below w.heap.size w w13)); clear HO367 HO371; clear hg hw hp_))
   go_roundg k1
   case measure => have := HK1.out; omega
   case rel => exact ⟨(y372), (wrap64 (x4_1 + 1)), rsd, H', ⟨by have := HK1.out; omega⟩, ⟨by (with_reducible repeat (first | apply Kd.S_alloc | apply Kd.S_drewN | apply Kd.S_drew)); exact HO_3.out⟩, ⟨tb HB⟩⟩
def laws_eqDescS.l0 : Nat → List (S145) → List (S145) → Int → Option (Bool)
 | 0, _, _, _ => none
 | k + 1, x0, x1, x5 => if x5 < (x0.length : Int) then (if 0 ≤ x5 then (if x5 < (x1.length : Int) then ((laws_eqDesc.f k ((rd_T145 x0 x5).f0) ((rd_T145 x0 x5).f1) ((rd_T145 x0 x5).f2) ((rd_T145 x0 x5).f3.f0) ((rd_T145 x0 x5).f3.f1) ((rd_T145 x1 x5).f0) ((rd_T145 x1 x5).f1) ((rd_T145 x1 x5).f2) ((rd_T145 x1 x5).f3.f0) ((rd_T145 x1 x5).f3.f1)).bind fun t414 => (if t414 = true then (laws_eqDescS.l0 k x0 x1 (wrap64 (x5 + 1))) else (some false))) else (none)) else (none)) else (some true)
def laws_eqDescS.f (k : Nat) (l0 : List (S145)) (l1 : List (S145)) : Option (Bool) := if (l0.length : Int) = (l1.length : Int) then (laws_eqDescS.l0 k l0 l1 0) else (some false)
def laws_eqDescS.T6 : Bool × List (List Nat × List Nat) := (true, [([], []), ([], []), ([0, 1], [0, 1]), ([2], [2]), ([], []), ([], []), ([4, 5], [4, 5]), ([6], [6]), ([3, 7], [3, 7]), ([8], [8])])
def laws_eqDescS.B6 : List Nat := [0, 0, 3, 7, 0, 0, 48, 112, 255, 511]
theorem laws_eqDescS.tab6 : rtab .any (opsOf Try.f27 6) = laws_eqDescS.T6 := by kernel_rfl
theorem laws_eqDescS.bits6 : waitsOk laws_eqDescS.T6.2 laws_eqDescS.B6 = true := by kernel_rfl
set_option maxHeartbeats 8000000 in
set_option maxRecDepth 100000 in
theorem laws_eqDescS.calls (k : Nat) (A0 : Option Addr) (c0 : Nat) (l0 : List (S145)) (A1 : Option Addr) (c1 : Nat) (l1 : List (S145)) (r : Bool) (w : World) (hr0 : Kd.C k145 w A0 l0.length l0) (hc0 : l0.length ≤ c0) (hr1 : Kd.C k145 w A1 l1.length l1) (hc1 : l1.length ≤ c1) (h : laws_eqDescS.f k l0 l1 = some r) :
  Calls Try.prog 27 #[.slice A0 l0.length c0, .slice A1 l1.length c1] w fun e w' => e = .returned (.bool r) ∧ Below w.heap.size w w' := by
 have hu145 := Try.underlying145
 have HR0 := Aside0.mk hr0
 have HC0 := Aside0.mk hc0
 clear hr0 hc0
 have HR1 := Aside0.mk hr1
 have HC1 := Aside0.mk hc1
 clear hr1 hc1
 have HB := Aside0.mk (Below.refl w.heap.size w)
 have H := h
 clear h
 unfold laws_eqDescS.f at H
 by_cases c3 : (l0.length : Int) = (l1.length : Int)
 case neg =>
  rw [if_neg c3] at H
  have c3b0 : ((l0.length : Int) == (l1.length : Int)) = false := beq_eq_false_iff_ne.mpr c3
  have c3b1 : ((l0.length : Int) != (l1.length : Int)) = true := bne_iff_ne.mpr c3
  have c3b2 : (l0.length == l1.length) = false := by first | simpa using c3 | (simp at c3 ⊢; omega)
  obtain rfl := oin H
  go_enter Try.func27, Try.ntmps27
  go_wp2
  go_ret
  exact ⟨er, tb HB⟩
 
 
 rw [if_pos c3] at H
 have c3b0 : ((l0.length : Int) == (l1.length : Int)) = true := beq_iff_eq.mpr c3
 have c3b1 : ((l0.length : Int) != (l1.length : Int)) = false := bne_eq_false_iff_eq.mpr c3
 have c3b2 : (l0.length == l1.length) = true := by first | simpa using c3 | (simp at c3 ⊢; omega)
 clear c3
 have H' := Aside0.mk H
 clear H
 go_enter Try.func27, Try.ntmps27
 go_wp2
 go_loopg [5] k (fun kq v5 w' => ∃ (x5_1 : Int), v5 = .int .i64 x5_1 ∧ Aside0 (laws_eqDescS.l0 kq l0 l1 x5_1 = some r) ∧ Aside0 (kq ≤ k) ∧ Aside0 (Below w.heap.size w w'))
 case atStart => exact ⟨(0), rsd, H', ⟨Nat.le_refl _⟩, ⟨tb HB⟩⟩
 case round =>
  clear H'
  obtain ⟨x5_1, rfl, HA, HK1, HB⟩ := hrel
  cases gk with
  | zero => exact absurd HA.out (by simp [laws_eqDescS.l0])
  | succ k1 =>
   have H := HA.out
   clear HA
   simp only [laws_eqDescS.l0] at H
   revert H; refine icd (fun c4b0 H => ?_) fun c4b0 H => ?neg
   case neg =>
    obtain rfl := oin H
    go_wp2
    go_ret
    exact ⟨er, tb HB⟩
   obtain ⟨c5b0, H⟩ := itd H
   obtain ⟨c6b0, H⟩ := itd H
   obtain ⟨t414, A7, H⟩ := bn H
   try dsimp only at H
   cases t414
   case false =>
    replace H := ipf H
    obtain rfl := oin H
    try go_wp2
    replace HB := Aside0.mk (below_drew1 HB.out)
    have p412 : 0 ≤ (x5_1 : Int) := od
    have q412 : x5_1 < (l0.length : Int) := od
    obtain ⟨ad412, A412_2, c412_2, A412_4, c412_4, e412, hx412, hl412_2, hi412_2, hl412_4, hi412_4⟩ := att145 HR0.out x5_1 p412 q412
    have hw412 := hx412
    cases e412
    replace hx412 := ox5 HB hx412
    have HR412_2 := Aside0.mk hi412_2
    have HC412_2 := Aside0.mk hl412_2
    clear hi412_2 hl412_2
    have HR412_4 := Aside0.mk hi412_4
    have HC412_4 := Aside0.mk hl412_4
    clear hi412_4 hl412_4
    replace p412 := eq_true p412
    replace q412 := eq_true q412
    have p413 : 0 ≤ (x5_1 : Int) := od
    have q413 : x5_1 < (l1.length : Int) := od
    obtain ⟨ad413, A413_2, c413_2, A413_4, c413_4, e413, hx413, hl413_2, hi413_2, hl413_4, hi413_4⟩ := att145 HR1.out x5_1 p413 q413
    have hw413 := hx413
    cases e413
    replace hx413 := ox5 HB hx413
    have HR413_2 := Aside0.mk hi413_2
    have HC413_2 := Aside0.mk hl413_2
    clear hi413_2 hl413_2
    have HR413_4 := Aside0.mk hi413_4
    have HC413_4 := Aside0.mk hl413_4
    clear hi413_4 hl413_4
    replace p413 := eq_true p413
    replace q413 := eq_true q413
    refine start_ (n := 10) (S := fun w' => eT145 (ad412.add ((x5_1).toNat * 5)) (rd_T145 l0 x5_1) A412_2 c412_2 A412_4 c412_4 w' ∧ eT145 (ad413.add ((x5_1).toNat * 5)) (rd_T145 l1 x5_1) A413_2 c413_2 A413_4 c413_4 w') (ds := []) #[false, false, false, false, false, false, false, false, false, false] (by kernel_rfl) rfl rfl ⟨(ox5 HB hw412 :), (ox5 HB hw413 :)⟩ (fun hHeld => ?_); refine with_tabW laws_eqDescS.tab6 laws_eqDescS.bits6 (fun HT_ HW_ => ?_)
    generalize wr.drew = w11 at HB HR412_2 HR412_4 HR413_2 HR413_4 hx412 hx413 hHeld ⊢
    refine pu 0 17 ?_; refine pu 1 18 ?_; refine pu 2 19 ?_; refine pu 4 21 ?_; refine pu 5 22 ?_; refine pu 6 23 ?_; refine ta 3 20 ?_; refine ta 7 24 ?_
    refine on1 8 (some 25) (fun K hK => ?_)
    refine gS Try.func101 #[.agg #[.int .i64 ((rd_T145 l0 x5_1).f0), .int .i64 ((rd_T145 l0 x5_1).f1), .slice A412_2 ((rd_T145 l0 x5_1).f2).length c412_2, .int .i64 ((rd_T145 l0 x5_1).f3.f0), .slice A412_4 ((rd_T145 l0 x5_1).f3.f1).length c412_4], .agg #[.int .i64 ((rd_T145 l1 x5_1).f0), .int .i64 ((rd_T145 l1 x5_1).f1), .slice A413_2 ((rd_T145 l1 x5_1).f2).length c413_2, .int .i64 ((rd_T145 l1 x5_1).f3.f0), .slice A413_4 ((rd_T145 l1 x5_1).f3.f1).length c413_4]] ?_
    with_reducible refine (laws_eqDesc.calls k1 ((rd_T145 l0 x5_1).f0) ((rd_T145 l0 x5_1).f1) _ _ ((rd_T145 l0 x5_1).f2) ((rd_T145 l0 x5_1).f3.f0) _ _ ((rd_T145 l0 x5_1).f3.f1) ((rd_T145 l1 x5_1).f0) ((rd_T145 l1 x5_1).f1) _ _ ((rd_T145 l1 x5_1).f2) ((rd_T145 l1 x5_1).f3.f0) _ _ ((rd_T145 l1 x5_1).f3.f1) false _ ?side1 ?side2 ?side3 ?side4 ?side5 ?side6 ?side7 ?side8 A7.out).mono ?_
    (case side1 => exact kc HR412_2 HB)
    (case side2 => exact HC412_2.out)
    (case side3 => exact kc HR412_4 HB)
    (case side4 => exact HC412_4.out)
    (case side5 => exact kc HR413_2 HB)
    (case side6 => exact HC413_2.out)
    (case side7 => exact kc HR413_4 HB)
    (case side8 => exact HC413_4.out)
    rintro e w12 ⟨rfl, hb⟩
    refine ⟨_, rfl, ?_⟩
    replace HB := bs HB hb
    (try clear hb)
    (try clear hb2)
    (try clear hk)
    (try clear hi)
    refine hK.out _ _ ⟨(ox5 HB hw412 :), (ox5 HB hw413 :)⟩ (fun hHeld => ?_)
    clear hK K
    refine nm 25 ?_
    refine pu 9 26 ?_
    refine done_ (done_of HT_.out (by kernel_rfl)) ?_
    try go_wp2
    go_ret
    exact ⟨er, tb HB⟩
   replace H := ipt H
   have H' := Aside0.mk H
   clear H
   try go_wp2
   replace HB := Aside0.mk (below_drew1 HB.out)
   have p412 : 0 ≤ (x5_1 : Int) := od
   have q412 : x5_1 < (l0.length : Int) := od
   obtain ⟨ad412, A412_2, c412_2, A412_4, c412_4, e412, hx412, hl412_2, hi412_2, hl412_4, hi412_4⟩ := att145 HR0.out x5_1 p412 q412
   have hw412 := hx412
   cases e412
   replace hx412 := ox5 HB hx412
   have HR412_2 := Aside0.mk hi412_2
   have HC412_2 := Aside0.mk hl412_2
   clear hi412_2 hl412_2
   have HR412_4 := Aside0.mk hi412_4
   have HC412_4 := Aside0.mk hl412_4
   clear hi412_4 hl412_4
   replace p412 := eq_true p412
   replace q412 := eq_true q412
   have p413 : 0 ≤ (x5_1 : Int) := od
   have q413 : x5_1 < (l1.length : Int) := od
   obtain ⟨ad413, A413_2, c413_2, A413_4, c413_4, e413, hx413, hl413_2, hi413_2, hl413_4, hi413_4⟩ := att145 HR1.out x5_1 p413 q413
   have hw413 := hx413
   cases e413
   replace hx413 := ox5 HB hx413
   have HR413_2 := Aside0.mk hi413_2
   have HC413_2 := Aside0.mk hl413_2
   clear hi413_2 hl413_2
   have HR413_4 := Aside0.mk hi413_4
   have HC413_4 := Aside0.mk hl413_4
   clear hi413_4 hl413_4
   replace p413 := eq_true p413
   replace q413 := eq_true q413
   refine start_ (n := 10) (S := fun w' => eT145 (ad412.add ((x5_1).toNat * 5)) (rd_T145 l0 x5_1) A412_2 c412_2 A412_4 c412_4 w' ∧ eT145 (ad413.add ((x5_1).toNat * 5)) (rd_T145 l1 x5_1) A413_2 c413_2 A413_4 c413_4 w') (ds := []) #[false, false, false, false, false, false, false, false, false, false] (by kernel_rfl) rfl rfl ⟨(ox5 HB hw412 :), (ox5 HB hw413 :)⟩ (fun hHeld => ?_); refine with_tabW laws_eqDescS.tab6 laws_eqDescS.bits6 (fun HT_ HW_ => ?_)
   generalize wr.drew = w9 at HB HR412_2 HR412_4 HR413_2 HR413_4 hx412 hx413 hHeld ⊢
   refine pu 0 17 ?_; refine pu 1 18 ?_; refine pu 2 19 ?_; refine pu 4 21 ?_; refine pu 5 22 ?_; refine pu 6 23 ?_; refine ta 3 20 ?_; refine ta 7 24 ?_
   refine on1 8 (some 25) (fun K hK => ?_)
   refine gS Try.func101 #[.agg #[.int .i64 ((rd_T145 l0 x5_1).f0), .int .i64 ((rd_T145 l0 x5_1).f1), .slice A412_2 ((rd_T145 l0 x5_1).f2).length c412_2, .int .i64 ((rd_T145 l0 x5_1).f3.f0), .slice A412_4 ((rd_T145 l0 x5_1).f3.f1).length c412_4], .agg #[.int .i64 ((rd_T145 l1 x5_1).f0), .int .i64 ((rd_T145 l1 x5_1).f1), .slice A413_2 ((rd_T145 l1 x5_1).f2).length c413_2, .int .i64 ((rd_T145 l1 x5_1).f3.f0), .slice A413_4 ((rd_T145 l1 x5_1).f3.f1).length c413_4]] ?_
   with_reducible refine (laws_eqDesc.calls k1 ((rd_T145 l0 x5_1).f0) ((rd_T145 l0 x5_1).f1) _ _ ((rd_T145 l0 x5_1).f2) ((rd_T145 l0 x5_1).f3.f0) _ _ ((rd_T145 l0 x5_1).f3.f1) ((rd_T145 l1 x5_1).f0) ((rd_T145 l1 x5_1).f1) _ _ ((rd_T145 l1 x5_1).f2) ((rd_T145 l1 x5_1).f3.f0) _ _ ((rd_T145 l1 x5_1).f3.f1) true _ ?side1 ?side2 ?side3 ?side4 ?side5 ?side6 ?side7 ?side8 A7.out).mono ?_
   (case side1 => exact kc HR412_2 HB)
   (case side2 => exact HC412_2.out)
   (case side3 => exact kc HR412_4 HB)
   (case side4 => exact HC412_4.out)
   (case side5 => exact kc HR413_2 HB)
   (case side6 => exact HC413_2.out)
   (case side7 => exact kc HR413_4 HB)
   (case side8 => exact HC413_4.out)
   rintro e w10 ⟨rfl, hb⟩
   refine ⟨_, rfl, ?_⟩
   replace HB := bs HB hb
   (try clear hb)
   (try clear hb2)
   (try clear hk)
   (try clear hi)
   refine hK.out _ _ ⟨(ox5 HB hw412 :), (ox5 HB hw413 :)⟩ (fun hHeld => ?_)
   clear hK K
   refine nm 25 ?_
   refine pu 9 26 ?_
   refine done_ (done_of HT_.out (by kernel_rfl)) ?_
   try go_wp2
   go_roundg k1
   case measure => have := HK1.out; omega
   case rel => exact ⟨(wrap64 (x5_1 + 1)), rsd, H', ⟨by have := HK1.out; omega⟩, ⟨tb HB⟩⟩
end Go.Proofs.Ytopikhjcbcpiaaa.Q
