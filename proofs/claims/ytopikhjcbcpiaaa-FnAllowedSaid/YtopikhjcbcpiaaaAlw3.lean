/- Part 3 of the steps by which the law is shown: what each function of the program, of the reference and of the law computes. No condition. -/
import Derived.Test.YtopikhjcbcpiaaaAlw2
namespace Go.Proofs.Ytopikhjcbcpiaaa.Q
open Go.RowKit Go.Proofs.YtopikhjcbcpiaaaW.PrintWords Go.Proofs.YtopikhjcbcpiaaaW.PrintLast Go.Proofs.YtopikhjcbcpiaaaW.PrintMore
attribute [local go_sem] max2_int min2_int max_two min_two max_three min_three max_four min_four   -- for this text's walks alone
set_option linter.unusedVariables false
set_option linter.unusedSimpArgs false
mutual
def impl_After.j0 : Nat → Bool → Int → Int → Int → List Int → Int → Option (List Int × Int)
 | 0, _, _, _, _, _, _ => none
 | k + 1, x19, x609000, x609001, x609002, x616000, x616001 => if x19 = true then (some (x616000, x616001)) else (if x609000 = 1 then (impl_After.j1 k x609000 (x609000 == 1) x609000 x609001 x609002 x616000 x616001) else (impl_After.j1 k x609000 (x609000 == 2) x609000 x609001 x609002 x616000 x616001))
def impl_After.j1 : Nat → Int → Bool → Int → Int → Int → List Int → Int → Option (List Int × Int)
 | 0, _, _, _, _, _, _, _ => none
 | k + 1, x22, x23, x609000, x609001, x609002, x616000, x616001 => if x23 = true then (if 0 ≤ x609001 then (if x609001 < (x616000.length : Int) then (some ((x616000.set (x609001 : Int).toNat x609002), x616001)) else (none)) else (none)) else (if x22 = 3 then (if 0 ≤ x609001 then (if x609001 < (x616000.length : Int) then (some ((x616000.set (x609001 : Int).toNat 0), x616001)) else (none)) else (none)) else (if x22 = 8 then (some (x616000, wrap64 (x616001 + 1))) else (if x22 = 9 then (some (x616000, wrap64 (x616001 + 1))) else (some (x616000, x616001)))))
end
def impl_After.f (k : Nat) (l0_0 : List Int) (a0_1 : Int) (a1_0 : Int) (a1_1 : Int) (a1_2 : Int) (a2_0 : Int) (l2_1 : List Int) : Option (List Int × Int) := (impl_copyRows.f l0_0 a0_1).bind fun bt611 => ((impl_Allowed.f k l0_0 a0_1 a1_0 a1_1 a1_2 a2_0 l2_1).bind fun t616 => (if t616 = true then (impl_After.j0 k (a2_0 != 0) a1_0 a1_1 a1_2 bt611.1 bt611.2) else (impl_After.j0 k true a1_0 a1_1 a1_2 bt611.1 bt611.2)))
theorem impl_After.mono_l : ∀ k, (∀ y0 y1 y2 y3 y4 y5, LeO (impl_After.j0 k y0 y1 y2 y3 y4 y5) (impl_After.j0 (k + 1) y0 y1 y2 y3 y4 y5)) ∧ (∀ y0 y1 y2 y3 y4 y5 y6, LeO (impl_After.j1 k y0 y1 y2 y3 y4 y5 y6) (impl_After.j1 (k + 1) y0 y1 y2 y3 y4 y5 y6))
 | 0 => ⟨fun _ _ _ _ _ _ r h => by simp [impl_After.j0] at h, fun _ _ _ _ _ _ _ r h => by simp [impl_After.j1] at h⟩
 | k + 1 => by
  obtain ⟨ih0, ih1⟩ := impl_After.mono_l k
  refine ⟨?_, ?_⟩
  ·intro y0 y1 y2 y3 y4 y5
   unfold impl_After.j0
   repeat' first
   | (with_reducible exact ih0 _ _ _ _ _ _)
   | (with_reducible exact ih1 _ _ _ _ _ _ _)
   | (with_reducible exact impl_Allowed.mono _ _ _ _ _ _ _ _)
   | (with_reducible exact LeO.refl _)
   | (with_reducible exact LeO.none _)
   | (with_reducible refine LeO.ite ?_ ?_)
   | (with_reducible refine LeO.bind ?_ (fun _ => ?_))
   | exact ih0 _ _ _ _ _ _
   | exact ih1 _ _ _ _ _ _ _
   | exact impl_Allowed.mono _ _ _ _ _ _ _ _
   | exact LeO.none _
   | refine LeO.ite ?_ ?_
   | refine LeO.bind ?_ (fun _ => ?_)
  ·intro y0 y1 y2 y3 y4 y5 y6
   unfold impl_After.j1
   repeat' first
   | (with_reducible exact ih0 _ _ _ _ _ _)
   | (with_reducible exact ih1 _ _ _ _ _ _ _)
   | (with_reducible exact impl_Allowed.mono _ _ _ _ _ _ _ _)
   | (with_reducible exact LeO.refl _)
   | (with_reducible exact LeO.none _)
   | (with_reducible refine LeO.ite ?_ ?_)
   | (with_reducible refine LeO.bind ?_ (fun _ => ?_))
   | exact ih0 _ _ _ _ _ _
   | exact ih1 _ _ _ _ _ _ _
   | exact impl_Allowed.mono _ _ _ _ _ _ _ _
   | exact LeO.none _
   | refine LeO.ite ?_ ?_
   | refine LeO.bind ?_ (fun _ => ?_)
theorem impl_After.mono : ∀ a0 a1 a2 a3 a4 a5 a6 k, LeO (impl_After.f k a0 a1 a2 a3 a4 a5 a6) (impl_After.f (k + 1) a0 a1 a2 a3 a4 a5 a6) := by
 intro a0 a1 a2 a3 a4 a5 a6 k
 obtain ⟨ih0, ih1⟩ := impl_After.mono_l k
 unfold impl_After.f
 repeat' first
   | (with_reducible exact ih0 _ _ _ _ _ _)
   | (with_reducible exact ih1 _ _ _ _ _ _ _)
   | (with_reducible exact impl_Allowed.mono _ _ _ _ _ _ _ _)
   | (with_reducible exact LeO.refl _)
   | (with_reducible exact LeO.none _)
   | (with_reducible refine LeO.ite ?_ ?_)
   | (with_reducible refine LeO.bind ?_ (fun _ => ?_))
   | exact ih0 _ _ _ _ _ _
   | exact ih1 _ _ _ _ _ _ _
   | exact impl_Allowed.mono _ _ _ _ _ _ _ _
   | exact LeO.none _
   | refine LeO.ite ?_ ?_
   | refine LeO.bind ?_ (fun _ => ?_)
set_option maxHeartbeats 8000000 in
set_option maxRecDepth 100000 in
theorem impl_After.calls (k : Nat) (A0_0 : Option Addr) (c0_0 : Nat) (l0_0 : List Int) (a0_1 : Int) (a1_0 : Int) (a1_1 : Int) (a1_2 : Int) (a2_0 : Int) (A2_1 : Option Addr) (c2_1 : Nat) (l2_1 : List Int) (r1 : List Int) (r2 : Int) (w : World) (hr0_0 : Kd.C (Kd.int .i64) w A0_0 l0_0.length l0_0) (hc0_0 : l0_0.length ≤ c0_0) (hr2_1 : Kd.C (Kd.int .i64) w A2_1 l2_1.length l2_1) (hc2_1 : l2_1.length ≤ c2_1) (h : impl_After.f k l0_0 a0_1 a1_0 a1_1 a1_2 a2_0 l2_1 = some (r1, r2)) :
  Calls Try.prog 38 #[.agg #[.slice A0_0 l0_0.length c0_0, .int .i64 a0_1], .agg #[.int .i64 a1_0, .int .i64 a1_1, .int .i64 a1_2], .agg #[.int .i64 a2_0, .slice A2_1 l2_1.length c2_1]] w fun e w' => ∃ v0_ : Value, e = .returned (.agg #[v0_, .int .i64 r2]) ∧ Kd.R (Kd.int .i64) 3 w' w.heap.size (fun _ => True) v0_ r1 ∧ Below w.heap.size w w' := by
 have hu65 := Try.underlying65
 have hu68 := Try.underlying68
 have hu70 := Try.underlying70
 have HR0_0 := Aside0.mk hr0_0
 have HC0_0 := Aside0.mk hc0_0
 clear hr0_0 hc0_0
 have HR2_1 := Aside0.mk hr2_1
 have HC2_1 := Aside0.mk hc2_1
 clear hr2_1 hc2_1
 have HB := Aside0.mk (Below.refl w.heap.size w)
 have H : ((impl_copyRows.f l0_0 a0_1).bind fun bt611 => ((impl_Allowed.f k l0_0 a0_1 a1_0 a1_1 a1_2 a2_0 l2_1).bind fun t616 => (if t616 = true then (impl_After.j0 k (a2_0 != 0) a1_0 a1_1 a1_2 bt611.1 bt611.2) else (impl_After.j0 k true a1_0 a1_1 a1_2 bt611.1 bt611.2)))) = some (r1, r2) := h
 clear h
 replace H := Option.bind_eq_some_iff.mp H
 obtain ⟨⟨t611, t614⟩, A40, H⟩ := H
 replace H : ((impl_Allowed.f k l0_0 a0_1 a1_0 a1_1 a1_2 a2_0 l2_1).bind fun t616 => (if t616 = true then (impl_After.j0 k (a2_0 != 0) a1_0 a1_1 a1_2 t611 t614) else (impl_After.j0 k true a1_0 a1_1 a1_2 t611 t614))) = some (r1, r2) := H
 have A4 := Aside0.mk A40
 clear A40
 have HC5 := Aside0.mk H
 clear H
 go_enter Try.func38, Try.ntmps38
 go_upto_region 2 with (first | ((with_reducible refine gate_dst (N := 3) rfl ?_); refine bx (N := 3) (cs := #[.slice A0_0 l0_0.length c0_0, .int .i64 a0_1]) (t := 65) ?_; intro gb607 hg w6 hbox hb; have BK607 := Aside0.mk (hbox); have GW607 := Aside0.mk (ge_ hg HB); have GE607 := Aside0.mk (ge_ hg HB); replace HB := bs HB hb; clear hb hbox hg) | ((with_reducible refine gate_dst (N := 4) rfl ?_); refine bx (N := 4) (cs := #[.int .i64 a1_0, .int .i64 a1_1, .int .i64 a1_2]) (t := 68) ?_; intro gb608 hg w7 hbox hb; have BK608 := Aside0.mk (hbox); have GW608 := Aside0.mk (ge_ hg HB); have GE608 := Aside0.mk (ge_ hg HB); replace HB := bs HB hb; have NB607_608 := Aside0.mk (nl_ hg BK607); have NB608_607 := Aside0.mk (ng_ hg BK607); replace BK607 := bb BK607 hb; clear hb hbox hg) | ((with_reducible refine gate_dst (N := 5) rfl ?_); refine bx (N := 5) (cs := #[.int .i64 a2_0, .slice A2_1 l2_1.length c2_1]) (t := 70) ?_; intro gb609 hg w8 hbox hb; have BK609 := Aside0.mk (hbox); have GW609 := Aside0.mk (ge_ hg HB); have GE609 := Aside0.mk (ge_ hg HB); replace HB := bs HB hb; have NB607_609 := Aside0.mk (nl_ hg BK607); have NB609_607 := Aside0.mk (ng_ hg BK607); replace BK607 := bb BK607 hb; have NB608_609 := Aside0.mk (nl_ hg BK608); have NB609_608 := Aside0.mk (ng_ hg BK608); replace BK608 := bb BK608 hb; clear hb hbox hg) | ((with_reducible refine gate_dst (N := 6) rfl ?_); refine bx (N := 6) (cs := #[.slice none 0 0, .int .i64 0]) (t := 65) ?_; intro gb610 hg w9 hbox hb; have BK610 := Aside0.mk (hbox); have GW610 := Aside0.mk (ge_ hg HB); have GE610 := Aside0.mk (ge_ hg HB); replace HB := bs HB hb; have NB607_610 := Aside0.mk (nl_ hg BK607); have NB610_607 := Aside0.mk (ng_ hg BK607); replace BK607 := bb BK607 hb; have NB608_610 := Aside0.mk (nl_ hg BK608); have NB610_608 := Aside0.mk (ng_ hg BK608); replace BK608 := bb BK608 hb; have NB609_610 := Aside0.mk (nl_ hg BK609); have NB610_609 := Aside0.mk (ng_ hg BK609); replace BK609 := bb BK609 hb; clear hb hbox hg; have hnb10 := NB607_608.out; have hnc10 := NB608_607.out; have hnb11 := NB607_609.out; have hnc11 := NB609_607.out; have hnb12 := NB607_610.out; have hnc12 := NB610_607.out; obtain ⟨hcz13_0, hcz13_1, hfz13_0, hfz13_1⟩ := c2 BK607) | ((with_reducible refine gate_callee (f := 104) rfl ?_); refine gL 9 Try.func104 #[.agg #[.slice A0_0 l0_0.length c0_0, .int .i64 a0_1]] ?_; (with_reducible refine (impl_copyRows.calls _ _ l0_0 a0_1 t611 t614 _ ?side1 ?side2 A4.out).mono ?_); (case side1 => exact kc HR0_0 HB); (case side2 => exact HC0_0.out); rintro e w14 ⟨v612, rfl, ho0, hb⟩; refine ⟨_, rfl, ?_⟩; have HO613 := Aside0.mk (Kd.R_lower ho0 (below_size (tb HB))); replace BK607 := bb BK607 hb; replace BK608 := bb BK608 hb; replace BK609 := bb BK609 hb; replace BK610 := bb BK610 hb; replace HB := bs HB hb; (try clear hb); (try clear hb2); (try clear hk); (try clear hi); (try clear ho0)) | ((with_reducible refine gate_dst (N := 7) rfl ?_); refine bx (N := 7) (cs := #[.slice none 0 0, .int .i64 0]) (t := 65) ?_; intro gb615 hg w15 hbox hb; replace HO613 := rb HO613 hb; have BK615 := Aside0.mk (hbox); have GW615 := Aside0.mk (ge_ hg HB); have GE615 := Aside0.mk (ge_ hg HB); replace HB := bs HB hb; have NB607_615 := Aside0.mk (nl_ hg BK607); have NB615_607 := Aside0.mk (ng_ hg BK607); replace BK607 := bb BK607 hb; have NB608_615 := Aside0.mk (nl_ hg BK608); have NB615_608 := Aside0.mk (ng_ hg BK608); replace BK608 := bb BK608 hb; have NB609_615 := Aside0.mk (nl_ hg BK609); have NB615_609 := Aside0.mk (ng_ hg BK609); replace BK609 := bb BK609 hb; have NB610_615 := Aside0.mk (nl_ hg BK610); have NB615_610 := Aside0.mk (ng_ hg BK610); replace BK610 := bb BK610 hb; clear hb hbox hg; obtain ⟨Ao16, co16, eo16⟩ := Kd.R_slice HO613.out; subst eo16; have hnb17 := NB615_607.out; have hnc17 := NB607_615.out; have hnb18 := NB615_608.out; have hnc18 := NB608_615.out; have hnb19 := NB615_609.out; have hnc19 := NB609_615.out; have hnb20 := NB615_610.out; have hnc20 := NB610_615.out; obtain ⟨hcz21_0, hcz21_1, hfz21_0, hfz21_1⟩ := c2 BK615))
 (try simp only [Act.put, sA, sB, sC])
 go_cut [19] (fun v19 wc => ∃ (kq : Nat) (x19_4 : Bool), v19 = .bool x19_4 ∧ Aside0 (impl_After.j0 kq x19_4 a1_0 a1_1 a1_2 t611 t614 = some (r1, r2)) ∧ Aside0 (kq ≤ k) ∧ Aside0 (Kd.R (Kd.int .i64) 3 wc w.heap.size (fun _ => True) (.slice Ao16 t611.length co16) t611) ∧ Aside0 (wc.heap[gb607]? = some (.cells #[(.slice A0_0 l0_0.length c0_0), .int .i64 a0_1] 65 (0, 0))) ∧ Aside0 (wc.heap[gb608]? = some (.cells #[.int .i64 a1_0, .int .i64 a1_1, .int .i64 a1_2] 68 (0, 0))) ∧ Aside0 (wc.heap[gb609]? = some (.cells #[.int .i64 a2_0, (.slice A2_1 l2_1.length c2_1)] 70 (0, 0))) ∧ Aside0 (wc.heap[gb610]? = some (.cells #[(.slice none 0 0), .int .i64 0] 65 (0, 0))) ∧ Aside0 (wc.heap[gb615]? = some (.cells #[(.slice Ao16 t611.length co16), .int .i64 t614] 65 (0, 0))) ∧ Aside0 (Below w.heap.size w wc))
 case first =>
  have H := HC5.out
  clear HC5
  replace H := Option.bind_eq_some_iff.mp H
  obtain ⟨t616, A220, H⟩ := H
  replace H : (if t616 = true then (impl_After.j0 k (a2_0 != 0) a1_0 a1_1 a1_2 t611 t614) else (impl_After.j0 k true a1_0 a1_1 a1_2 t611 t614)) = some (r1, r2) := H
  have A22 := Aside0.mk A220
  clear A220
  by_cases c23 : t616 = true
  ·subst c23
   have H1 : (impl_After.j0 k (a2_0 != 0) a1_0 a1_1 a1_2 t611 t614) = some (r1, r2) := by rw [if_pos rfl] at H; exact H
   clear H
   have H := H1
   clear H1
   have H' := Aside0.mk H
   clear H
   have hnb24 := NB607_608.out
   have hnc24 := NB608_607.out
   have hnb25 := NB607_609.out
   have hnc25 := NB609_607.out
   have hnb26 := NB607_610.out
   have hnc26 := NB610_607.out
   have hnb27 := NB607_615.out
   have hnc27 := NB615_607.out
   obtain ⟨hcz28_0, hcz28_1, hfz28_0, hfz28_1⟩ := c2 BK607
   have hnb29 := NB608_609.out
   have hnc29 := NB609_608.out
   have hnb30 := NB608_610.out
   have hnc30 := NB610_608.out
   have hnb31 := NB608_615.out
   have hnc31 := NB615_608.out
   obtain ⟨hcz32_0, hcz32_1, hcz32_2, hfz32_0, hfz32_1, hfz32_2⟩ := c3 BK608
   have hnb33 := NB609_610.out
   have hnc33 := NB610_609.out
   have hnb34 := NB609_615.out
   have hnc34 := NB615_609.out
   obtain ⟨hcz35_0, hcz35_1, hfz35_0, hfz35_1⟩ := c2 BK609
   go_wp2_with (first | ((with_reducible refine gate_callee (f := 46) rfl ?_); refine gL 13 Try.func46 #[.agg #[.slice A0_0 l0_0.length c0_0, .int .i64 a0_1], .agg #[.int .i64 a1_0, .int .i64 a1_1, .int .i64 a1_2], .agg #[.int .i64 a2_0, .slice A2_1 l2_1.length c2_1]] ?_; (with_reducible refine (impl_Allowed.calls k _ _ l0_0 a0_1 a1_0 a1_1 a1_2 a2_0 _ _ l2_1 true _ ?side1 ?side2 ?side3 ?side4 A22.out).mono ?_); (case side1 => exact Kd.C_below HR0_0.out (tb HB)); (case side2 => exact HC0_0.out); (case side3 => exact Kd.C_below HR2_1.out (tb HB)); (case side4 => exact HC2_1.out); rintro e w36 ⟨rfl, hb⟩; refine ⟨_, rfl, ?_⟩; replace HO613 := Aside0.mk (Kd.R_below (kr ((Kd.R_mono (Kd.R_far (p := ⟨gb615, 1, none⟩) (Kd.R_far (p := ⟨gb615, 0, none⟩) (Kd.R_types HO613.out BK615.out (by decide)) (fun _ hk => hk.2) (.slice Ao16 t611.length co16)) (fun _ hk => hk.2) (.int .i64 t614)) (fun _ h_ => h_.1)))) hb); replace BK607 := Aside0.mk (blk_below (g := gb607) (o := .cells #[.slice A0_0 l0_0.length c0_0, .int .i64 a0_1] 65 (0, 0)) (bf BK607) hb); replace BK608 := Aside0.mk (blk_below (g := gb608) (o := .cells #[.int .i64 a1_0, .int .i64 a1_1, .int .i64 a1_2] 68 (0, 0)) (bf BK608) hb); replace BK609 := Aside0.mk (blk_below (g := gb609) (o := .cells #[.int .i64 a2_0, .slice A2_1 l2_1.length c2_1] 70 (0, 0)) (bf BK609) hb); replace BK610 := Aside0.mk (blk_below (g := gb610) (o := .cells #[.slice none 0 0, .int .i64 0] 65 (0, 0)) (bf BK610) hb); replace BK615 := Aside0.mk (blk_below (g := gb615) (o := .cells #[.slice Ao16 t611.length co16, .int .i64 t614] 65 (0, 0)) (by (with_reducible repeat (first | refine blk_drewN ?_ _ | refine blk_drew ?_ | refine blk_alloc ?_ _)); refine blk_put (cs := #[.slice Ao16 t611.length co16, .int .i64 0]) ?_ 1 _ rfl; (with_reducible repeat (first | refine blk_drewN ?_ _ | refine blk_drew ?_ | refine blk_alloc ?_ _)); refine blk_put (cs := #[.slice none 0 0, .int .i64 0]) ?_ 0 _ rfl; (with_reducible repeat (first | refine blk_drewN ?_ _ | refine blk_drew ?_ | refine blk_alloc ?_ _)); exact BK615.out) hb); replace HB := bs HB hb; (try clear hb); (try clear hb2); (try clear hk); (try clear hi); obtain ⟨hcz37_0, hcz37_1, hfz37_0, hfz37_1⟩ := c2 BK609))
   go_meet
   case rel => exact ⟨_, ((a2_0 != 0)), (by first | rfl | (simp; done) | (simp [*]; done)), H', ⟨by first | omega | exact Nat.le_refl _⟩, ⟨kr HO613.out⟩, ⟨by (with_reducible repeat (first | refine blk_drewN ?_ _ | refine blk_drew ?_ | refine blk_alloc ?_ _)); exact BK607.out⟩, ⟨by (with_reducible repeat (first | refine blk_drewN ?_ _ | refine blk_drew ?_ | refine blk_alloc ?_ _)); exact BK608.out⟩, ⟨by (with_reducible repeat (first | refine blk_drewN ?_ _ | refine blk_drew ?_ | refine blk_alloc ?_ _)); exact BK609.out⟩, ⟨by (with_reducible repeat (first | refine blk_drewN ?_ _ | refine blk_drew ?_ | refine blk_alloc ?_ _)); exact BK610.out⟩, ⟨by (with_reducible repeat (first | refine blk_drewN ?_ _ | refine blk_drew ?_ | refine blk_alloc ?_ _)); exact BK615.out⟩, ⟨tb HB⟩⟩
  ·replace c23 := Bool.eq_false_iff.mpr c23
   subst c23
   have H1 : (impl_After.j0 k true a1_0 a1_1 a1_2 t611 t614) = some (r1, r2) := by rw [if_neg (show ¬ (false = true) by decide)] at H; exact H
   clear H
   have H := H1
   clear H1
   have H' := Aside0.mk H
   clear H
   have hnb38 := NB607_608.out
   have hnc38 := NB608_607.out
   have hnb39 := NB607_609.out
   have hnc39 := NB609_607.out
   have hnb40 := NB607_610.out
   have hnc40 := NB610_607.out
   have hnb41 := NB607_615.out
   have hnc41 := NB615_607.out
   obtain ⟨hcz42_0, hcz42_1, hfz42_0, hfz42_1⟩ := c2 BK607
   have hnb43 := NB608_609.out
   have hnc43 := NB609_608.out
   have hnb44 := NB608_610.out
   have hnc44 := NB610_608.out
   have hnb45 := NB608_615.out
   have hnc45 := NB615_608.out
   obtain ⟨hcz46_0, hcz46_1, hcz46_2, hfz46_0, hfz46_1, hfz46_2⟩ := c3 BK608
   have hnb47 := NB609_610.out
   have hnc47 := NB610_609.out
   have hnb48 := NB609_615.out
   have hnc48 := NB615_609.out
   obtain ⟨hcz49_0, hcz49_1, hfz49_0, hfz49_1⟩ := c2 BK609
   go_wp2_with (first | ((with_reducible refine gate_callee (f := 46) rfl ?_); refine gL 13 Try.func46 #[.agg #[.slice A0_0 l0_0.length c0_0, .int .i64 a0_1], .agg #[.int .i64 a1_0, .int .i64 a1_1, .int .i64 a1_2], .agg #[.int .i64 a2_0, .slice A2_1 l2_1.length c2_1]] ?_; (with_reducible refine (impl_Allowed.calls k _ _ l0_0 a0_1 a1_0 a1_1 a1_2 a2_0 _ _ l2_1 false _ ?side1 ?side2 ?side3 ?side4 A22.out).mono ?_); (case side1 => exact Kd.C_below HR0_0.out (tb HB)); (case side2 => exact HC0_0.out); (case side3 => exact Kd.C_below HR2_1.out (tb HB)); (case side4 => exact HC2_1.out); rintro e w50 ⟨rfl, hb⟩; refine ⟨_, rfl, ?_⟩; replace HO613 := Aside0.mk (Kd.R_below (kr ((Kd.R_mono (Kd.R_far (p := ⟨gb615, 1, none⟩) (Kd.R_far (p := ⟨gb615, 0, none⟩) (Kd.R_types HO613.out BK615.out (by decide)) (fun _ hk => hk.2) (.slice Ao16 t611.length co16)) (fun _ hk => hk.2) (.int .i64 t614)) (fun _ h_ => h_.1)))) hb); replace BK607 := Aside0.mk (blk_below (g := gb607) (o := .cells #[.slice A0_0 l0_0.length c0_0, .int .i64 a0_1] 65 (0, 0)) (bf BK607) hb); replace BK608 := Aside0.mk (blk_below (g := gb608) (o := .cells #[.int .i64 a1_0, .int .i64 a1_1, .int .i64 a1_2] 68 (0, 0)) (bf BK608) hb); replace BK609 := Aside0.mk (blk_below (g := gb609) (o := .cells #[.int .i64 a2_0, .slice A2_1 l2_1.length c2_1] 70 (0, 0)) (bf BK609) hb); replace BK610 := Aside0.mk (blk_below (g := gb610) (o := .cells #[.slice none 0 0, .int .i64 0] 65 (0, 0)) (bf BK610) hb); replace BK615 := Aside0.mk (blk_below (g := gb615) (o := .cells #[.slice Ao16 t611.length co16, .int .i64 t614] 65 (0, 0)) (by (with_reducible repeat (first | refine blk_drewN ?_ _ | refine blk_drew ?_ | refine blk_alloc ?_ _)); refine blk_put (cs := #[.slice Ao16 t611.length co16, .int .i64 0]) ?_ 1 _ rfl; (with_reducible repeat (first | refine blk_drewN ?_ _ | refine blk_drew ?_ | refine blk_alloc ?_ _)); refine blk_put (cs := #[.slice none 0 0, .int .i64 0]) ?_ 0 _ rfl; (with_reducible repeat (first | refine blk_drewN ?_ _ | refine blk_drew ?_ | refine blk_alloc ?_ _)); exact BK615.out) hb); replace HB := bs HB hb; (try clear hb); (try clear hb2); (try clear hk); (try clear hi)))
   go_meet
   case rel => exact ⟨_, (true), (by first | rfl | (simp; done) | (simp [*]; done)), H', ⟨by first | omega | exact Nat.le_refl _⟩, ⟨kr HO613.out⟩, ⟨by (with_reducible repeat (first | refine blk_drewN ?_ _ | refine blk_drew ?_ | refine blk_alloc ?_ _)); exact BK607.out⟩, ⟨by (with_reducible repeat (first | refine blk_drewN ?_ _ | refine blk_drew ?_ | refine blk_alloc ?_ _)); exact BK608.out⟩, ⟨by (with_reducible repeat (first | refine blk_drewN ?_ _ | refine blk_drew ?_ | refine blk_alloc ?_ _)); exact BK609.out⟩, ⟨by (with_reducible repeat (first | refine blk_drewN ?_ _ | refine blk_drew ?_ | refine blk_alloc ?_ _)); exact BK610.out⟩, ⟨by (with_reducible repeat (first | refine blk_drewN ?_ _ | refine blk_drew ?_ | refine blk_alloc ?_ _)); exact BK615.out⟩, ⟨tb HB⟩⟩
 case rest =>
  clear HC5
  try clear c1
  try clear c2
  try clear p2
  try clear c3
  try clear c4
  try clear c10
  try clear c11
  try clear c12
  try clear c17
  try clear c18
  try clear c19
  try clear c20
  try clear c23
  try clear c24
  try clear c25
  try clear c26
  try clear c27
  try clear c29
  try clear c30
  try clear c31
  try clear c33
  try clear c34
  try clear c38
  try clear c39
  try clear c40
  try clear c41
  try clear c43
  try clear c44
  try clear c45
  try clear c46
  try clear c47
  try clear c48
  try clear hcz13_0
  try clear hcz13_1
  try clear hcz21_0
  try clear hcz21_1
  try clear hcz28_0
  try clear hcz28_1
  try clear hcz32_0
  try clear hcz32_1
  try clear hcz32_2
  try clear hcz35_0
  try clear hcz35_1
  try clear hcz37_0
  try clear hcz37_1
  try clear hcz42_0
  try clear hcz42_1
  try clear hcz46_0
  try clear hcz46_1
  try clear hcz46_2
  try clear hcz49_0
  try clear hcz49_1
  try clear hfz13_0
  try clear hfz13_1
  try clear hfz21_0
  try clear hfz21_1
  try clear hfz28_0
  try clear hfz28_1
  try clear hfz32_0
  try clear hfz32_1
  try clear hfz32_2
  try clear hfz35_0
  try clear hfz35_1
  try clear hfz37_0
  try clear hfz37_1
  try clear hfz42_0
  try clear hfz42_1
  try clear hfz46_0
  try clear hfz46_1
  try clear hfz46_2
  try clear hfz49_0
  try clear hfz49_1
  obtain ⟨kq, x19_4, rfl, HA, HJ4, HO_616000, BK607, BK608, BK609, BK610, BK615, HB⟩ := hcut
  cases kq with
  | zero => exact absurd HA.out (by simp [impl_After.j0])
  | succ kj4 =>
   have H := HA.out
   clear HA
   simp only [impl_After.j0] at H
   by_cases c51 : x19_4 = true
   ·subst c51
    have H1 : (some (t611, t614)) = some (r1, r2) := by rw [if_pos rfl] at H; exact H
    clear H
    have H := H1
    clear H1
    simp only [Option.some.injEq, Prod.mk.injEq] at H
    obtain ⟨rfl, rfl⟩ := H
    have hnb52 := NB615_607.out
    have hnc52 := NB607_615.out
    have hnb53 := NB615_608.out
    have hnc53 := NB608_615.out
    have hnb54 := NB615_609.out
    have hnc54 := NB609_615.out
    have hnb55 := NB615_610.out
    have hnc55 := NB610_615.out
    obtain ⟨hcz56_0, hcz56_1, hfz56_0, hfz56_1⟩ := c2 BK615
    have hnb57 := NB610_607.out
    have hnc57 := NB607_610.out
    have hnb58 := NB610_608.out
    have hnc58 := NB608_610.out
    have hnb59 := NB610_609.out
    have hnc59 := NB609_610.out
    obtain ⟨hcz60_0, hcz60_1, hfz60_0, hfz60_1⟩ := c2 BK610
    go_wp2
    refine bodyPost_ret (results_cell_row rfl _ _ gb610 65 #[.slice Ao16 t611.length co16, .int .i64 t614] (0, 0) _ rfl (by (with_reducible repeat (first | refine blk_drewN ?_ _ | refine blk_drew ?_ | refine blk_alloc ?_ _)); refine blk_put (cs := #[.slice Ao16 t611.length co16, .int .i64 0]) ?_ 1 _ rfl; (with_reducible repeat (first | refine blk_drewN ?_ _ | refine blk_drew ?_ | refine blk_alloc ?_ _)); refine blk_put (cs := #[.slice none 0 0, .int .i64 0]) ?_ 0 _ rfl; (with_reducible repeat (first | refine blk_drewN ?_ _ | refine blk_drew ?_ | refine blk_alloc ?_ _)); exact BK610.out) Try.underlying65 rfl (by kernel_rfl)) rfl ?_
    exact ⟨_, er, by (with_reducible repeat (first | apply Kd.R_alloc | apply Kd.R_drewN | apply Kd.R_drew)); exact Kd.R_mono (Kd.R_far (p := ⟨gb610, 1, none⟩) (Kd.R_far (p := ⟨gb610, 0, none⟩) (Kd.R_types HO_616000.out BK610.out (by decide)) (fun _ hk => hk.2) (.slice Ao16 t611.length co16)) (fun _ hk => hk.2) (.int .i64 t614)) (fun _ hk => trivial), tb HB⟩
   ·replace c51 := Bool.eq_false_iff.mpr c51
    subst c51
    have H1 : (if a1_0 = 1 then (impl_After.j1 kj4 a1_0 (a1_0 == 1) a1_0 a1_1 a1_2 t611 t614) else (impl_After.j1 kj4 a1_0 (a1_0 == 2) a1_0 a1_1 a1_2 t611 t614)) = some (r1, r2) := by rw [if_neg (show ¬ (false = true) by decide)] at H; exact H
    clear H
    have H := H1
    clear H1
    have HC61 := Aside0.mk H
    clear H
    have hnb62 := NB608_607.out
    have hnc62 := NB607_608.out
    have hnb63 := NB608_609.out
    have hnc63 := NB609_608.out
    have hnb64 := NB608_610.out
    have hnc64 := NB610_608.out
    have hnb65 := NB608_615.out
    have hnc65 := NB615_608.out
    obtain ⟨hcz66_0, hcz66_1, hcz66_2, hfz66_0, hfz66_1, hfz66_2⟩ := c3 BK608
    go_upto_if 23 with (fail)
    go_cut [23] (fun v23 wc => ∃ (kq : Nat) (x23_60 : Bool), v23 = .bool x23_60 ∧ Aside0 (impl_After.j1 kq a1_0 x23_60 a1_0 a1_1 a1_2 t611 t614 = some (r1, r2)) ∧ Aside0 (kq ≤ kj4) ∧ Aside0 (Kd.R (Kd.int .i64) 3 wc w.heap.size (fun _ => True) (.slice Ao16 t611.length co16) t611) ∧ Aside0 (wc.heap[gb607]? = some (.cells #[(.slice A0_0 l0_0.length c0_0), .int .i64 a0_1] 65 (0, 0))) ∧ Aside0 (wc.heap[gb608]? = some (.cells #[.int .i64 a1_0, .int .i64 a1_1, .int .i64 a1_2] 68 (0, 0))) ∧ Aside0 (wc.heap[gb609]? = some (.cells #[.int .i64 a2_0, (.slice A2_1 l2_1.length c2_1)] 70 (0, 0))) ∧ Aside0 (wc.heap[gb610]? = some (.cells #[(.slice none 0 0), .int .i64 0] 65 (0, 0))) ∧ Aside0 (wc.heap[gb615]? = some (.cells #[(.slice Ao16 t611.length co16), .int .i64 t614] 65 (0, 0))) ∧ Aside0 (Below w.heap.size w wc))
    case first =>
     have H := HC61.out
     clear HC61
     by_cases c67 : a1_0 = 1
     ·rw [if_pos c67] at H
      have c67b0 : (a1_0 == 1) = true := beq_iff_eq.mpr c67
      have c67b1 : (a1_0 != 1) = false := bne_eq_false_iff_eq.mpr c67
      clear c67
      (first | rw [c67b0] | (simp only [i64_w, i32_w]; rw [c67b0]) | skip)
      have H' := Aside0.mk H
      clear H
      go_wp2
      go_meet
      case rel => exact ⟨_, ((a1_0 == 1)), (by first | rfl | (simp; done) | (simp [*]; done)), H', ⟨by have := HJ4.out; first | omega | exact Nat.le_refl _⟩, ⟨kr HO_616000.out⟩, ⟨by (with_reducible repeat (first | refine blk_drewN ?_ _ | refine blk_drew ?_ | refine blk_alloc ?_ _)); exact BK607.out⟩, ⟨by (with_reducible repeat (first | refine blk_drewN ?_ _ | refine blk_drew ?_ | refine blk_alloc ?_ _)); exact BK608.out⟩, ⟨by (with_reducible repeat (first | refine blk_drewN ?_ _ | refine blk_drew ?_ | refine blk_alloc ?_ _)); exact BK609.out⟩, ⟨by (with_reducible repeat (first | refine blk_drewN ?_ _ | refine blk_drew ?_ | refine blk_alloc ?_ _)); exact BK610.out⟩, ⟨by (with_reducible repeat (first | refine blk_drewN ?_ _ | refine blk_drew ?_ | refine blk_alloc ?_ _)); exact BK615.out⟩, ⟨tb HB⟩⟩
     ·rw [if_neg c67] at H
      have c67b0 : (a1_0 == 1) = false := beq_eq_false_iff_ne.mpr c67
      have c67b1 : (a1_0 != 1) = true := bne_iff_ne.mpr c67
      (first | rw [c67b0] | (simp only [i64_w, i32_w]; rw [c67b0]) | skip)
      have H' := Aside0.mk H
      clear H
      go_wp2
      go_meet
      case rel => exact ⟨_, ((a1_0 == 2)), (by first | rfl | (simp; done) | (simp [*]; done)), H', ⟨by have := HJ4.out; first | omega | exact Nat.le_refl _⟩, ⟨kr HO_616000.out⟩, ⟨by (with_reducible repeat (first | refine blk_drewN ?_ _ | refine blk_drew ?_ | refine blk_alloc ?_ _)); exact BK607.out⟩, ⟨by (with_reducible repeat (first | refine blk_drewN ?_ _ | refine blk_drew ?_ | refine blk_alloc ?_ _)); exact BK608.out⟩, ⟨by (with_reducible repeat (first | refine blk_drewN ?_ _ | refine blk_drew ?_ | refine blk_alloc ?_ _)); exact BK609.out⟩, ⟨by (with_reducible repeat (first | refine blk_drewN ?_ _ | refine blk_drew ?_ | refine blk_alloc ?_ _)); exact BK610.out⟩, ⟨by (with_reducible repeat (first | refine blk_drewN ?_ _ | refine blk_drew ?_ | refine blk_alloc ?_ _)); exact BK615.out⟩, ⟨tb HB⟩⟩
    case rest =>
     clear HC61
     try clear c1
     try clear c2
     try clear p2
     try clear c3
     try clear c4
     try clear c5
     try clear c6
     try clear c10
     try clear c11
     try clear c12
     try clear c17
     try clear c18
     try clear c19
     try clear c20
     try clear c23
     try clear c24
     try clear c25
     try clear c26
     try clear c27
     try clear c29
     try clear c30
     try clear c31
     try clear c33
     try clear c34
     try clear c38
     try clear c39
     try clear c40
     try clear c41
     try clear c43
     try clear c44
     try clear c45
     try clear c46
     try clear c47
     try clear c48
     try clear c51
     try clear c52
     try clear c53
     try clear c54
     try clear c55
     try clear c57
     try clear c58
     try clear c59
     try clear c62
     try clear c63
     try clear c64
     try clear c65
     try clear c67
     try clear c67b0
     try clear c67b1
     try clear hcz13_0
     try clear hcz13_1
     try clear hcz21_0
     try clear hcz21_1
     try clear hcz28_0
     try clear hcz28_1
     try clear hcz32_0
     try clear hcz32_1
     try clear hcz32_2
     try clear hcz35_0
     try clear hcz35_1
     try clear hcz37_0
     try clear hcz37_1
     try clear hcz42_0
     try clear hcz42_1
     try clear hcz46_0
     try clear hcz46_1
     try clear hcz46_2
     try clear hcz49_0
     try clear hcz49_1
     try clear hcz56_0
     try clear hcz56_1
     try clear hcz60_0
     try clear hcz60_1
     try clear hcz66_0
     try clear hcz66_1
     try clear hcz66_2
     try clear hfz13_0
     try clear hfz13_1
     try clear hfz21_0
     try clear hfz21_1
     try clear hfz28_0
     try clear hfz28_1
     try clear hfz32_0
     try clear hfz32_1
     try clear hfz32_2
     try clear hfz35_0
     try clear hfz35_1
     try clear hfz37_0
     try clear hfz37_1
     try clear hfz42_0
     try clear hfz42_1
     try clear hfz46_0
     try clear hfz46_1
     try clear hfz46_2
     try clear hfz49_0
     try clear hfz49_1
     try clear hfz56_0
     try clear hfz56_1
     try clear hfz60_0
     try clear hfz60_1
     try clear hfz66_0
     try clear hfz66_1
     try clear hfz66_2
     try clear p2
     obtain ⟨kq, x23_60, rfl, HA, HJ60, HO_616000, BK607, BK608, BK609, BK610, BK615, HB⟩ := hcut
     cases kq with
     | zero => exact absurd HA.out (by simp [impl_After.j1])
     | succ kj60 =>
      have H := HA.out
      clear HA
      simp only [impl_After.j1] at H
      by_cases c68 : x23_60 = true
      ·subst c68
       have H1 : (if 0 ≤ a1_1 then (if a1_1 < (t611.length : Int) then (some ((t611.set (a1_1 : Int).toNat a1_2), t614)) else (none)) else (none)) = some (r1, r2) := by rw [if_pos rfl] at H; exact H
       clear H
       have H := H1
       clear H1
       by_cases c69 : 0 ≤ a1_1
       ·rw [if_pos c69] at H
        have c69b0 := decide_eq_true c69
        clear c69
        by_cases c70 : a1_1 < (t611.length : Int)
        ·rw [if_pos c70] at H
         have c70b0 := decide_eq_true c70
         clear c70
         obtain ⟨y617, hy617⟩ : ∃ y_ : List Int, y_ = (t611.set (a1_1 : Int).toNat a1_2) := ⟨_, rfl⟩
         replace H : (some (y617, t614)) = some (r1, r2) := by first | (rw [hy617]; with_reducible exact H) | (have H2_ := (Option.bind_some _ _).symm.trans H; rw [hy617]; with_reducible exact H2_) | (have H2_ := (Option.bind_some _ _).symm.trans H; with_reducible exact H2_) | with_reducible exact H | (rw [hy617]; exact H) | exact H
         have Ny617 := Aside0.mk hy617
         clear hy617
         simp only [Option.some.injEq, Prod.mk.injEq] at H
         obtain ⟨rfl, rfl⟩ := H
         have hnb72 := NB615_607.out
         have hnc72 := NB607_615.out
         have hnb73 := NB615_608.out
         have hnc73 := NB608_615.out
         have hnb74 := NB615_609.out
         have hnc74 := NB609_615.out
         have hnb75 := NB615_610.out
         have hnc75 := NB610_615.out
         obtain ⟨hcz76_0, hcz76_1, hfz76_0, hfz76_1⟩ := c2 BK615
         have hnb77 := NB608_607.out
         have hnc77 := NB607_608.out
         have hnb78 := NB608_609.out
         have hnc78 := NB609_608.out
         have hnb79 := NB608_610.out
         have hnc79 := NB610_608.out
         obtain ⟨hcz80_0, hcz80_1, hcz80_2, hfz80_0, hfz80_1, hfz80_2⟩ := c3 BK608
         have p71 : 0 ≤ (a1_1 : Int) := od
         have q71 : (a1_1 : Int) < ((t611.length : Int) : Int) := od
         obtain ⟨go71, co71, eo71, gb71, gl71, cl71, HG71⟩ := Kd.R_form HO_616000.out (by omega)
         (first | cases eo71 | (injection eo71 with ea_ en_ ec_; (first | subst ea_ | (injection ea_ with ea_; subst ea_)); subst ec_; clear en_))
         have GB71 := Aside0.mk gb71
         have GG71 := Aside0.mk HG71
         clear gb71 gl71 HG71
         obtain ⟨hx71_0, hf71_0⟩ := Kd.R_celln 0 HO_616000.out (a1_1 : Int) p71 q71
         replace p71 := eq_true p71
         replace q71 := eq_true q71
         have HP81 := Kd.R_putg HO_616000.out (a1_1 : Int) a1_2
         go_wp2_with (first | ((with_reducible refine gate_store (t := 3) (p := 32) rfl ?_); refine store_event (t := 3) (p := 32) (v := ?vo_w82) (w1 := (wc.setCell ⟨go71, (a1_1 : Int).toNat, none⟩ (.int .i64 a1_2))) ?hg ?ho ?hn ?hr ?_; (case ho => rfl); (case hg => rfl); (case hn => rfl); (case hr => first | (go_simp; done) | (go_simp; rfl)); intro w82 hw; have hg : wc.grownBy w82 (some go71) := (by rw [hw]; exact HP81.2); have hp_ : Kd.R (Kd.int .i64) 3 w82 w.heap.size (fun _ => True) (.slice (some ⟨go71, 0, none⟩) t611.length co16) y617 := (by rw [hw, Ny617.out]; exact HP81.1); clear HP81; replace BK607 := Aside0.mk (blk_grown (g := gb607) (o := .cells #[.slice A0_0 l0_0.length c0_0, .int .i64 a0_1] 65 (0, 0)) (bk BK607) hg (Kd.R_ne HO_616000.out BK607.out (by decide))); replace BK608 := Aside0.mk (blk_grown (g := gb608) (o := .cells #[.int .i64 a1_0, .int .i64 a1_1, .int .i64 a1_2] 68 (0, 0)) (bk BK608) hg (Kd.R_ne HO_616000.out BK608.out (by decide))); replace BK609 := Aside0.mk (blk_grown (g := gb609) (o := .cells #[.int .i64 a2_0, .slice A2_1 l2_1.length c2_1] 70 (0, 0)) (bk BK609) hg (Kd.R_ne HO_616000.out BK609.out (by decide))); replace BK610 := Aside0.mk (blk_grown (g := gb610) (o := .cells #[.slice none 0 0, .int .i64 0] 65 (0, 0)) (bk BK610) hg (Kd.R_ne HO_616000.out BK610.out (by decide))); replace BK615 := Aside0.mk (blk_grown (g := gb615) (o := .cells #[.slice (some ⟨go71, 0, none⟩) t611.length co16, .int .i64 t614] 65 (0, 0)) (bk BK615) hg (Kd.R_ne HO_616000.out BK615.out (by decide))); replace HO_616000 := Aside0.mk (hp_); replace HB := Aside0.mk ((by rw [hw]; exact below_set (HB.out) GB71.out : Below w.heap.size w w82)); clear hg hw hp_; obtain ⟨hcz83_0, hcz83_1, hfz83_0, hfz83_1⟩ := c2 BK615; have hnb84 := NB610_607.out; have hnc84 := NB607_610.out; have hnb85 := NB610_609.out; have hnc85 := NB609_610.out; obtain ⟨hcz86_0, hcz86_1, hfz86_0, hfz86_1⟩ := c2 BK610))
         refine bodyPost_ret (results_cell_row rfl _ _ gb610 65 #[.slice (some ⟨go71, 0, none⟩) t611.length co16, .int .i64 t614] (0, 0) _ rfl (by (with_reducible repeat (first | refine blk_drewN ?_ _ | refine blk_drew ?_ | refine blk_alloc ?_ _)); refine blk_put (cs := #[.slice (some ⟨go71, 0, none⟩) t611.length co16, .int .i64 0]) ?_ 1 _ rfl; (with_reducible repeat (first | refine blk_drewN ?_ _ | refine blk_drew ?_ | refine blk_alloc ?_ _)); refine blk_put (cs := #[.slice none 0 0, .int .i64 0]) ?_ 0 _ rfl; (with_reducible repeat (first | refine blk_drewN ?_ _ | refine blk_drew ?_ | refine blk_alloc ?_ _)); exact BK610.out) Try.underlying65 rfl (by kernel_rfl)) rfl ?_
         exact ⟨_, er, by (with_reducible repeat (first | apply Kd.R_alloc | apply Kd.R_drewN | apply Kd.R_drew)); exact Kd.R_mono (Kd.R_far (p := ⟨gb610, 1, none⟩) (Kd.R_far (p := ⟨gb610, 0, none⟩) (Kd.R_types HO_616000.out BK610.out (by decide)) (fun _ hk => hk.2) (.slice (some ⟨go71, 0, none⟩) t611.length co16)) (fun _ hk => hk.2) (.int .i64 t614)) (fun _ hk => trivial), tb HB⟩
        ·rw [if_neg c70] at H
         exact absurd H (by simp)
       ·rw [if_neg c69] at H
        exact absurd H (by simp)
      ·replace c68 := Bool.eq_false_iff.mpr c68
       subst c68
       have H1 : (if a1_0 = 3 then (if 0 ≤ a1_1 then (if a1_1 < (t611.length : Int) then (some ((t611.set (a1_1 : Int).toNat 0), t614)) else (none)) else (none)) else (if a1_0 = 8 then (some (t611, wrap64 (t614 + 1))) else (if a1_0 = 9 then (some (t611, wrap64 (t614 + 1))) else (some (t611, t614))))) = some (r1, r2) := by rw [if_neg (show ¬ (false = true) by decide)] at H; exact H
       clear H
       have H := H1
       clear H1
       by_cases c87 : a1_0 = 3
       ·rw [if_pos c87] at H
        have c87b0 : (a1_0 == 3) = true := beq_iff_eq.mpr c87
        have c87b1 : (a1_0 != 3) = false := bne_eq_false_iff_eq.mpr c87
        clear c87
        by_cases c88 : 0 ≤ a1_1
        ·rw [if_pos c88] at H
         have c88b0 := decide_eq_true c88
         clear c88
         by_cases c89 : a1_1 < (t611.length : Int)
         ·rw [if_pos c89] at H
          have c89b0 := decide_eq_true c89
          clear c89
          obtain ⟨y618, hy618⟩ : ∃ y_ : List Int, y_ = (t611.set (a1_1 : Int).toNat 0) := ⟨_, rfl⟩
          replace H : (some (y618, t614)) = some (r1, r2) := by first | (rw [hy618]; with_reducible exact H) | (have H2_ := (Option.bind_some _ _).symm.trans H; rw [hy618]; with_reducible exact H2_) | (have H2_ := (Option.bind_some _ _).symm.trans H; with_reducible exact H2_) | with_reducible exact H | (rw [hy618]; exact H) | exact H
          have Ny618 := Aside0.mk hy618
          clear hy618
          simp only [Option.some.injEq, Prod.mk.injEq] at H
          obtain ⟨rfl, rfl⟩ := H
          have hnb91 := NB615_607.out
          have hnc91 := NB607_615.out
          have hnb92 := NB615_608.out
          have hnc92 := NB608_615.out
          have hnb93 := NB615_609.out
          have hnc93 := NB609_615.out
          have hnb94 := NB615_610.out
          have hnc94 := NB610_615.out
          obtain ⟨hcz95_0, hcz95_1, hfz95_0, hfz95_1⟩ := c2 BK615
          have hnb96 := NB608_607.out
          have hnc96 := NB607_608.out
          have hnb97 := NB608_609.out
          have hnc97 := NB609_608.out
          have hnb98 := NB608_610.out
          have hnc98 := NB610_608.out
          obtain ⟨hcz99_0, hcz99_1, hcz99_2, hfz99_0, hfz99_1, hfz99_2⟩ := c3 BK608
          have p90 : 0 ≤ (a1_1 : Int) := od
          have q90 : (a1_1 : Int) < ((t611.length : Int) : Int) := od
          obtain ⟨go90, co90, eo90, gb90, gl90, cl90, HG90⟩ := Kd.R_form HO_616000.out (by omega)
          (first | cases eo90 | (injection eo90 with ea_ en_ ec_; (first | subst ea_ | (injection ea_ with ea_; subst ea_)); subst ec_; clear en_))
          have GB90 := Aside0.mk gb90
          have GG90 := Aside0.mk HG90
          clear gb90 gl90 HG90
          obtain ⟨hx90_0, hf90_0⟩ := Kd.R_celln 0 HO_616000.out (a1_1 : Int) p90 q90
          replace p90 := eq_true p90
          replace q90 := eq_true q90
          have HP100 := Kd.R_putg HO_616000.out (a1_1 : Int) 0
          go_wp2_with (first | ((with_reducible refine gate_store (t := 3) (p := 39) rfl ?_); refine store_event (t := 3) (p := 39) (v := ?vo_w101) (w1 := (wc.setCell ⟨go90, (a1_1 : Int).toNat, none⟩ (.int .i64 0))) ?hg ?ho ?hn ?hr ?_; (case ho => rfl); (case hg => rfl); (case hn => rfl); (case hr => first | (go_simp; done) | (go_simp; rfl)); intro w101 hw; have hg : wc.grownBy w101 (some go90) := (by rw [hw]; exact HP100.2); have hp_ : Kd.R (Kd.int .i64) 3 w101 w.heap.size (fun _ => True) (.slice (some ⟨go90, 0, none⟩) t611.length co16) y618 := (by rw [hw, Ny618.out]; exact HP100.1); clear HP100; replace BK607 := Aside0.mk (blk_grown (g := gb607) (o := .cells #[.slice A0_0 l0_0.length c0_0, .int .i64 a0_1] 65 (0, 0)) (bk BK607) hg (Kd.R_ne HO_616000.out BK607.out (by decide))); replace BK608 := Aside0.mk (blk_grown (g := gb608) (o := .cells #[.int .i64 a1_0, .int .i64 a1_1, .int .i64 a1_2] 68 (0, 0)) (bk BK608) hg (Kd.R_ne HO_616000.out BK608.out (by decide))); replace BK609 := Aside0.mk (blk_grown (g := gb609) (o := .cells #[.int .i64 a2_0, .slice A2_1 l2_1.length c2_1] 70 (0, 0)) (bk BK609) hg (Kd.R_ne HO_616000.out BK609.out (by decide))); replace BK610 := Aside0.mk (blk_grown (g := gb610) (o := .cells #[.slice none 0 0, .int .i64 0] 65 (0, 0)) (bk BK610) hg (Kd.R_ne HO_616000.out BK610.out (by decide))); replace BK615 := Aside0.mk (blk_grown (g := gb615) (o := .cells #[.slice (some ⟨go90, 0, none⟩) t611.length co16, .int .i64 t614] 65 (0, 0)) (bk BK615) hg (Kd.R_ne HO_616000.out BK615.out (by decide))); replace HO_616000 := Aside0.mk (hp_); replace HB := Aside0.mk ((by rw [hw]; exact below_set (HB.out) GB90.out : Below w.heap.size w w101)); clear hg hw hp_; obtain ⟨hcz102_0, hcz102_1, hfz102_0, hfz102_1⟩ := c2 BK615; have hnb103 := NB610_607.out; have hnc103 := NB607_610.out; have hnb104 := NB610_609.out; have hnc104 := NB609_610.out; obtain ⟨hcz105_0, hcz105_1, hfz105_0, hfz105_1⟩ := c2 BK610))
          refine bodyPost_ret (results_cell_row rfl _ _ gb610 65 #[.slice (some ⟨go90, 0, none⟩) t611.length co16, .int .i64 t614] (0, 0) _ rfl (by (with_reducible repeat (first | refine blk_drewN ?_ _ | refine blk_drew ?_ | refine blk_alloc ?_ _)); refine blk_put (cs := #[.slice (some ⟨go90, 0, none⟩) t611.length co16, .int .i64 0]) ?_ 1 _ rfl; (with_reducible repeat (first | refine blk_drewN ?_ _ | refine blk_drew ?_ | refine blk_alloc ?_ _)); refine blk_put (cs := #[.slice none 0 0, .int .i64 0]) ?_ 0 _ rfl; (with_reducible repeat (first | refine blk_drewN ?_ _ | refine blk_drew ?_ | refine blk_alloc ?_ _)); exact BK610.out) Try.underlying65 rfl (by kernel_rfl)) rfl ?_
          exact ⟨_, er, by (with_reducible repeat (first | apply Kd.R_alloc | apply Kd.R_drewN | apply Kd.R_drew)); exact Kd.R_mono (Kd.R_far (p := ⟨gb610, 1, none⟩) (Kd.R_far (p := ⟨gb610, 0, none⟩) (Kd.R_types HO_616000.out BK610.out (by decide)) (fun _ hk => hk.2) (.slice (some ⟨go90, 0, none⟩) t611.length co16)) (fun _ hk => hk.2) (.int .i64 t614)) (fun _ hk => trivial), tb HB⟩
         ·rw [if_neg c89] at H
          exact absurd H (by simp)
        ·rw [if_neg c88] at H
         exact absurd H (by simp)
       ·rw [if_neg c87] at H
        have c87b0 : (a1_0 == 3) = false := beq_eq_false_iff_ne.mpr c87
        have c87b1 : (a1_0 != 3) = true := bne_iff_ne.mpr c87
        by_cases c106 : a1_0 = 8
        ·rw [if_pos c106] at H
         have c106b0 : (a1_0 == 8) = true := beq_iff_eq.mpr c106
         have c106b1 : (a1_0 != 8) = false := bne_eq_false_iff_eq.mpr c106
         clear c106
         simp only [Option.some.injEq, Prod.mk.injEq] at H
         obtain ⟨rfl, rfl⟩ := H
         have hnb107 := NB615_607.out
         have hnc107 := NB607_615.out
         have hnb108 := NB615_608.out
         have hnc108 := NB608_615.out
         have hnb109 := NB615_609.out
         have hnc109 := NB609_615.out
         have hnb110 := NB615_610.out
         have hnc110 := NB610_615.out
         obtain ⟨hcz111_0, hcz111_1, hfz111_0, hfz111_1⟩ := c2 BK615
         have hnb112 := NB610_607.out
         have hnc112 := NB607_610.out
         have hnb113 := NB610_608.out
         have hnc113 := NB608_610.out
         have hnb114 := NB610_609.out
         have hnc114 := NB609_610.out
         obtain ⟨hcz115_0, hcz115_1, hfz115_0, hfz115_1⟩ := c2 BK610
         go_wp2
         refine bodyPost_ret (results_cell_row rfl _ _ gb610 65 #[.slice Ao16 t611.length co16, .int .i64 (wrap64 (t614 + 1))] (0, 0) _ rfl (by (with_reducible repeat (first | refine blk_drewN ?_ _ | refine blk_drew ?_ | refine blk_alloc ?_ _)); refine blk_put (cs := #[.slice Ao16 t611.length co16, .int .i64 0]) ?_ 1 _ rfl; (with_reducible repeat (first | refine blk_drewN ?_ _ | refine blk_drew ?_ | refine blk_alloc ?_ _)); refine blk_put (cs := #[.slice none 0 0, .int .i64 0]) ?_ 0 _ rfl; (with_reducible repeat (first | refine blk_drewN ?_ _ | refine blk_drew ?_ | refine blk_alloc ?_ _)); refine blk_far ?_ NB610_615.out _; (with_reducible repeat (first | refine blk_drewN ?_ _ | refine blk_drew ?_ | refine blk_alloc ?_ _)); exact BK610.out) Try.underlying65 rfl (by kernel_rfl)) rfl ?_
         exact ⟨_, er, by (with_reducible repeat (first | apply Kd.R_alloc | apply Kd.R_drewN | apply Kd.R_drew)); exact Kd.R_mono (Kd.R_far (p := ⟨gb610, 1, none⟩) (Kd.R_far (p := ⟨gb610, 0, none⟩) (Kd.R_far (p := ⟨gb615, 1, none⟩) (Kd.R_types (Kd.R_types HO_616000.out BK615.out (by decide)) BK610.out (by decide)) (fun _ hk => hk.1.2) (.int .i64 (wrap64 (t614 + 1)))) (fun _ hk => hk.2) (.slice Ao16 t611.length co16)) (fun _ hk => hk.2) (.int .i64 (wrap64 (t614 + 1)))) (fun _ hk => trivial), tb HB⟩
        ·rw [if_neg c106] at H
         have c106b0 : (a1_0 == 8) = false := beq_eq_false_iff_ne.mpr c106
         have c106b1 : (a1_0 != 8) = true := bne_iff_ne.mpr c106
         by_cases c116 : a1_0 = 9
         ·rw [if_pos c116] at H
          have c116b0 : (a1_0 == 9) = true := beq_iff_eq.mpr c116
          have c116b1 : (a1_0 != 9) = false := bne_eq_false_iff_eq.mpr c116
          clear c116
          simp only [Option.some.injEq, Prod.mk.injEq] at H
          obtain ⟨rfl, rfl⟩ := H
          have hnb117 := NB615_607.out
          have hnc117 := NB607_615.out
          have hnb118 := NB615_608.out
          have hnc118 := NB608_615.out
          have hnb119 := NB615_609.out
          have hnc119 := NB609_615.out
          have hnb120 := NB615_610.out
          have hnc120 := NB610_615.out
          obtain ⟨hcz121_0, hcz121_1, hfz121_0, hfz121_1⟩ := c2 BK615
          have hnb122 := NB610_607.out
          have hnc122 := NB607_610.out
          have hnb123 := NB610_608.out
          have hnc123 := NB608_610.out
          have hnb124 := NB610_609.out
          have hnc124 := NB609_610.out
          obtain ⟨hcz125_0, hcz125_1, hfz125_0, hfz125_1⟩ := c2 BK610
          go_wp2
          refine bodyPost_ret (results_cell_row rfl _ _ gb610 65 #[.slice Ao16 t611.length co16, .int .i64 (wrap64 (t614 + 1))] (0, 0) _ rfl (by (with_reducible repeat (first | refine blk_drewN ?_ _ | refine blk_drew ?_ | refine blk_alloc ?_ _)); refine blk_put (cs := #[.slice Ao16 t611.length co16, .int .i64 0]) ?_ 1 _ rfl; (with_reducible repeat (first | refine blk_drewN ?_ _ | refine blk_drew ?_ | refine blk_alloc ?_ _)); refine blk_put (cs := #[.slice none 0 0, .int .i64 0]) ?_ 0 _ rfl; (with_reducible repeat (first | refine blk_drewN ?_ _ | refine blk_drew ?_ | refine blk_alloc ?_ _)); refine blk_far ?_ NB610_615.out _; (with_reducible repeat (first | refine blk_drewN ?_ _ | refine blk_drew ?_ | refine blk_alloc ?_ _)); exact BK610.out) Try.underlying65 rfl (by kernel_rfl)) rfl ?_
          exact ⟨_, er, by (with_reducible repeat (first | apply Kd.R_alloc | apply Kd.R_drewN | apply Kd.R_drew)); exact Kd.R_mono (Kd.R_far (p := ⟨gb610, 1, none⟩) (Kd.R_far (p := ⟨gb610, 0, none⟩) (Kd.R_far (p := ⟨gb615, 1, none⟩) (Kd.R_types (Kd.R_types HO_616000.out BK615.out (by decide)) BK610.out (by decide)) (fun _ hk => hk.1.2) (.int .i64 (wrap64 (t614 + 1)))) (fun _ hk => hk.2) (.slice Ao16 t611.length co16)) (fun _ hk => hk.2) (.int .i64 (wrap64 (t614 + 1)))) (fun _ hk => trivial), tb HB⟩
         ·rw [if_neg c116] at H
          have c116b0 : (a1_0 == 9) = false := beq_eq_false_iff_ne.mpr c116
          have c116b1 : (a1_0 != 9) = true := bne_iff_ne.mpr c116
          simp only [Option.some.injEq, Prod.mk.injEq] at H
          obtain ⟨rfl, rfl⟩ := H
          have hnb126 := NB615_607.out
          have hnc126 := NB607_615.out
          have hnb127 := NB615_608.out
          have hnc127 := NB608_615.out
          have hnb128 := NB615_609.out
          have hnc128 := NB609_615.out
          have hnb129 := NB615_610.out
          have hnc129 := NB610_615.out
          obtain ⟨hcz130_0, hcz130_1, hfz130_0, hfz130_1⟩ := c2 BK615
          have hnb131 := NB610_607.out
          have hnc131 := NB607_610.out
          have hnb132 := NB610_608.out
          have hnc132 := NB608_610.out
          have hnb133 := NB610_609.out
          have hnc133 := NB609_610.out
          obtain ⟨hcz134_0, hcz134_1, hfz134_0, hfz134_1⟩ := c2 BK610
          go_wp2
          refine bodyPost_ret (results_cell_row rfl _ _ gb610 65 #[.slice Ao16 t611.length co16, .int .i64 t614] (0, 0) _ rfl (by (with_reducible repeat (first | refine blk_drewN ?_ _ | refine blk_drew ?_ | refine blk_alloc ?_ _)); refine blk_put (cs := #[.slice Ao16 t611.length co16, .int .i64 0]) ?_ 1 _ rfl; (with_reducible repeat (first | refine blk_drewN ?_ _ | refine blk_drew ?_ | refine blk_alloc ?_ _)); refine blk_put (cs := #[.slice none 0 0, .int .i64 0]) ?_ 0 _ rfl; (with_reducible repeat (first | refine blk_drewN ?_ _ | refine blk_drew ?_ | refine blk_alloc ?_ _)); exact BK610.out) Try.underlying65 rfl (by kernel_rfl)) rfl ?_
          exact ⟨_, er, by (with_reducible repeat (first | apply Kd.R_alloc | apply Kd.R_drewN | apply Kd.R_drew)); exact Kd.R_mono (Kd.R_far (p := ⟨gb610, 1, none⟩) (Kd.R_far (p := ⟨gb610, 0, none⟩) (Kd.R_types HO_616000.out BK610.out (by decide)) (fun _ hk => hk.2) (.slice Ao16 t611.length co16)) (fun _ hk => hk.2) (.int .i64 t614)) (fun _ hk => trivial), tb HB⟩
def laws_big.f (l0 : List Int) : Option (Bool) := some (decide ((l0.length : Int) > 1048576))
set_option maxHeartbeats 8000000 in
set_option maxRecDepth 100000 in
theorem laws_big.calls (A0 : Option Addr) (c0 : Nat) (l0 : List Int) (r : Bool) (w : World) (hr0 : Kd.C (Kd.int .u8) w A0 l0.length l0) (hc0 : l0.length ≤ c0) (h : laws_big.f l0 = some r) :
  Calls Try.prog 44 #[.slice A0 l0.length c0] w fun e w' => e = .returned (.bool r) ∧ Drawn0 w w' := by
 have HR0 := Aside0.mk hr0
 have HC0 := Aside0.mk hc0
 clear hr0 hc0
 have H : (some (decide ((l0.length : Int) > 1048576))) = some r := h
 clear h
 obtain rfl := Option.some.inj H
 go_enter Try.func44, Try.ntmps44
 go_wp2
 go_ret
 exact ⟨by first | rfl | (simp; done) | (simp [*]; done), by repeat (first | exact Drawn0.refl _ | apply Drawn0.step)⟩
def IsS197 (w0 W : World) (g : Nat) (f0 : List Int) (f1 : Int) (f2 : Int) : Prop := ∃ A0 c0, W.heap[g]? = some (.cells #[.slice A0 f0.length c0, .int .i64 f1, .int .i64 f2] 197 (0, 0)) ∧ w0.heap.size ≤ g ∧ Kd.C (Kd.int .u8) w0 A0 f0.length f0
theorem IsS197.grown {w0 W : World} {g : Nat} {f0 : List Int} {f1 : Int} {f2 : Int} {W1 : World} {row : Option Nat} (h : IsS197 w0 W g f0 f1 f2) (hw : W.grownBy W1 row) (hne : some g ≠ row) : IsS197 w0 W1 g f0 f1 f2 := by
 obtain ⟨A0, c0, hb, hg, hr0⟩ := h
 exact ⟨A0, c0, blk_grown hb hw hne, hg, hr0⟩
theorem IsS197.own_neN {w0 W : World} {g : Nat} {f0 : List Int} {f1 : Int} {f2 : Int} {α : Type} {d : Kd α} {e : Nat} {base : Nat} {ok : Nat → Prop} {v : Value} {xs : List α} (h : IsS197 w0 W g f0 f1 f2) (ho : Kd.N d e W base ok v xs) (ht : e ≠ 197) : some g ≠ v.ownBlock := by
 obtain ⟨A0, c0, hb, hg, hr0⟩ := h
 exact Kd.N_ne ho hb ht
theorem IsS197.fresh {w0 W : World} {g : Nat} {f0 : List Int} {f1 : Int} {f2 : Int} (h : IsS197 w0 W g f0 f1 f2) : ∀ k, W.heap.size ≤ k → k ≠ g := by
 obtain ⟨A0, c0, hb, hg, hr0⟩ := h
 exact Kd.freshB hb
theorem IsS197.kept {w0 W : World} {g : Nat} {f0 : List Int} {f1 : Int} {f2 : Int} {W1 : World} {S : Nat → Prop} (h : IsS197 w0 W g f0 f1 f2) (hk : Kept W W1 S) (hne : ¬ S g) : IsS197 w0 W1 g f0 f1 f2 := by
 obtain ⟨A0, c0, hb, hg, hr0⟩ := h
 exact ⟨A0, c0, blk_kept hb hk hne, hg, hr0⟩
theorem IsS197.below {w0 W : World} {g : Nat} {f0 : List Int} {f1 : Int} {f2 : Int} {W1 : World} (h : IsS197 w0 W g f0 f1 f2) (hw : Below W.heap.size W W1) : IsS197 w0 W1 g f0 f1 f2 := h.grown (grown_of_below hw none) (by simp)
theorem IsS197.alloc {w0 W : World} {g : Nat} {f0 : List Int} {f1 : Int} {f2 : Int} (h : IsS197 w0 W g f0 f1 f2) (o : Obj) : IsS197 w0 (W.alloc o) g f0 f1 f2 := h.below (below_alloc (Below.refl _ _) o)
theorem IsS197.drewN {w0 W : World} {g : Nat} {f0 : List Int} {f1 : Int} {f2 : Int} (h : IsS197 w0 W g f0 f1 f2) (m : Nat) : IsS197 w0 (W.drewN m) g f0 f1 f2 := h
theorem IsS197.drew {w0 W : World} {g : Nat} {f0 : List Int} {f1 : Int} {f2 : Int} (h : IsS197 w0 W g f0 f1 f2) : IsS197 w0 W.drew g f0 f1 f2 := h
theorem IsS197.at_ {w0 W : World} {g : Nat} {f0 : List Int} {f1 : Int} {f2 : Int} {w' : World} {m : Nat} (hq : W.drewN m = w') (h : IsS197 w0 W g f0 f1 f2) : IsS197 w0 w' g f0 f1 f2 := by subst hq; exact IsS197.drewN h m
theorem IsS197.apart {w0 W : World} {g : Nat} {f0 : List Int} {f1 : Int} {f2 : Int} {α : Type} {d : Kd α} {e : Nat} {base : Nat} {ok : Nat → Prop} {v : Value} {xs : List α} (h : IsS197 w0 W g f0 f1 f2) (ho : d.R e W base ok v xs) (ht : ∀ q, q ∈ e :: d.E → q ≠ 197) : d.R e W base (fun k => ok k ∧ k ≠ g) v xs := by
 obtain ⟨A0, c0, hb, hg, hr0⟩ := h
 exact Kd.R_types ho hb ht
theorem IsS197.own_ne {w0 W : World} {g : Nat} {f0 : List Int} {f1 : Int} {f2 : Int} {α : Type} {d : Kd α} {e : Nat} {base : Nat} {ok : Nat → Prop} {v : Value} {xs : List α} (h : IsS197 w0 W g f0 f1 f2) (ho : d.R e W base ok v xs) (ht : e ≠ 197) : some g ≠ v.ownBlock := by
 obtain ⟨A0, c0, hb, hg, hr0⟩ := h
 exact Kd.R_ne ho hb ht
theorem IsS197.apartQ {w0 W : World} {g : Nat} {f0 : List Int} {f1 : Int} {f2 : Int} {α : Type} {d : Kd α} {e : Nat} {base : Nat} {ok : Nat → Prop} {v : Value} {xs : List α} (h : IsS197 w0 W g f0 f1 f2) (ho : d.Q e W base ok v xs) (ht : ∀ q, q ∈ e :: d.E → q ≠ 197) : d.Q e W base (fun k => ok k ∧ k ≠ g) v xs := by
 obtain ⟨A0, c0, hb, hg, hr0⟩ := h
 exact Kd.Q_types ho hb ht
theorem IsS197.own_neQ {w0 W : World} {g : Nat} {f0 : List Int} {f1 : Int} {f2 : Int} {α : Type} {d : Kd α} {e : Nat} {base : Nat} {ok : Nat → Prop} {v : Value} {xs : List α} (h : IsS197 w0 W g f0 f1 f2) (ho : d.Q e W base ok v xs) (ht : e ≠ 197) : some g ≠ v.ownBlock := by
 obtain ⟨A0, c0, hb, hg, hr0⟩ := h
 exact Kd.Q_ne ho hb ht
theorem IsS197.apartS {w0 W : World} {g : Nat} {f0 : List Int} {f1 : Int} {f2 : Int} {α : Type} {d : Kd α} {e : Nat} {base : Nat} {ok : Nat → Prop} {v : Value} {xs : List α} (h : IsS197 w0 W g f0 f1 f2) (ho : d.S e W base ok v xs) (ht : ∀ q, q ∈ e :: d.E → q ≠ 197) : d.S e W base (fun k => ok k ∧ k ≠ g) v xs := by
 obtain ⟨A0, c0, hb, hg, hr0⟩ := h
 exact Kd.S_types ho hb ht
theorem IsS197.own_neS {w0 W : World} {g : Nat} {f0 : List Int} {f1 : Int} {f2 : Int} {α : Type} {d : Kd α} {e : Nat} {base : Nat} {ok : Nat → Prop} {v : Value} {xs : List α} (h : IsS197 w0 W g f0 f1 f2) (ho : d.S e W base ok v xs) (ht : e ≠ 197) : some g ≠ v.ownBlock := by
 obtain ⟨A0, c0, hb, hg, hr0⟩ := h
 exact Kd.S_ne ho hb ht
theorem IsS197.lt {w0 W : World} {g : Nat} {f0 : List Int} {f1 : Int} {f2 : Int} (h : IsS197 w0 W g f0 f1 f2) : g < W.heap.size := by
 obtain ⟨A0, c0, hb, hg, hr0⟩ := h
 exact blk_lt hb
theorem IsS197.ge {w0 W : World} {g : Nat} {f0 : List Int} {f1 : Int} {f2 : Int} (h : IsS197 w0 W g f0 f1 f2) : w0.heap.size ≤ g := by
 obtain ⟨A0, c0, hb, hg, hr0⟩ := h
 exact hg
theorem IsS197.ne_blk {w0 W : World} {g : Nat} {f0 : List Int} {f1 : Int} {f2 : Int} {a : Nat} {cs : Array Value} {t : TypeId} {fr : Nat × Nat} (h : IsS197 w0 W g f0 f1 f2) (hb2 : W.heap[a]? = some (.cells cs t fr)) (ht : t ≠ 197) : g ≠ a := by
 obtain ⟨A0, c0, hb, hg, hr0⟩ := h
 rintro rfl
 rw [hb] at hb2
 injection hb2 with hb2
 injection hb2 with _ ht2
 exact ht ht2.symm
theorem IsS197.far {w0 W : World} {g : Nat} {f0 : List Int} {f1 : Int} {f2 : Int} {p : Addr} (h : IsS197 w0 W g f0 f1 f2) (hne : g ≠ p.block) (u : Value) : IsS197 w0 (W.setCell p u) g f0 f1 f2 := by
 obtain ⟨A0, c0, hb, hg, hr0⟩ := h
 exact ⟨A0, c0, blk_far hb hne u, hg, hr0⟩
theorem cellS197_0 {W : World} {g : Nat} {A0 : Option Addr} {c0 : Nat} {f0 : List Int} {f1 : Int} {f2 : Int} (h : W.heap[g]? = some (.cells #[.slice A0 f0.length c0, .int .i64 f1, .int .i64 f2] 197 (0, 0))) : W.cell? ⟨g, 0, none⟩ = some (.slice A0 f0.length c0) := (blk_cell h 0).trans rfl
theorem cellS197_1 {W : World} {g : Nat} {A0 : Option Addr} {c0 : Nat} {f0 : List Int} {f1 : Int} {f2 : Int} (h : W.heap[g]? = some (.cells #[.slice A0 f0.length c0, .int .i64 f1, .int .i64 f2] 197 (0, 0))) : W.cell? ⟨g, 1, none⟩ = some (.int .i64 f1) := (blk_cell h 1).trans rfl
theorem IsS197.set_1 {w0 W : World} {g : Nat} {f0 : List Int} {f1 : Int} {f2 : Int} (h : IsS197 w0 W g f0 f1 f2) (x : Int) : IsS197 w0 (W.setCell ⟨g, 1, none⟩ (.int .i64 x)) g f0 x f2 := by
 obtain ⟨A0, c0, hb, hg, hr0⟩ := h
 exact ⟨A0, c0, by simpa using blk_set hb 1 (.int .i64 x), hg, hr0⟩
theorem cellS197_2 {W : World} {g : Nat} {A0 : Option Addr} {c0 : Nat} {f0 : List Int} {f1 : Int} {f2 : Int} (h : W.heap[g]? = some (.cells #[.slice A0 f0.length c0, .int .i64 f1, .int .i64 f2] 197 (0, 0))) : W.cell? ⟨g, 2, none⟩ = some (.int .i64 f2) := (blk_cell h 2).trans rfl
theorem IsS197.set_2 {w0 W : World} {g : Nat} {f0 : List Int} {f1 : Int} {f2 : Int} (h : IsS197 w0 W g f0 f1 f2) (x : Int) : IsS197 w0 (W.setCell ⟨g, 2, none⟩ (.int .i64 x)) g f0 f1 x := by
 obtain ⟨A0, c0, hb, hg, hr0⟩ := h
 exact ⟨A0, c0, by simpa using blk_set hb 2 (.int .i64 x), hg, hr0⟩
theorem IsS197.new (w0 W : World) (A0 : Option Addr) (c0 : Nat) (f0 : List Int) (f1 : Int) (f2 : Int) (hB : Below w0.heap.size w0 W) (hr0 : Kd.C (Kd.int .u8) w0 A0 f0.length f0) : IsS197 w0 (W.alloc (.cells #[.slice A0 f0.length c0, .int .i64 f1, .int .i64 f2] 197)) W.heap.size f0 f1 f2 := ⟨A0, c0, by simpa using heap_alloc_new W _, hB.size, hr0⟩

theorem IsS197.go {w0 W W2 : World} {g : Nat} {f0 : List Int} {xf0 : List Int} {f1 : Int} {xf1 : Int} {f2 : Int} {xf2 : Int} (b : Aside0 (IsS197 w0 W g f0 f1 f2)) (f : IsS197 w0 W g f0 f1 f2 → IsS197 w0 W2 g xf0 xf1 xf2 := by intro h; repeat (first | (with_reducible first | exact h | apply IsS197.alloc | apply IsS197.drewN | apply IsS197.drew | apply IsS197.set_1 | apply IsS197.set_2 | refine IsS197.far ?_ (Aside0.out (by assumption)) _) | exact h)) : IsS197 w0 W2 g xf0 xf1 xf2 := f b.out
theorem IsS197.tb {B : Nat} {u w w2 : World} (b : Aside0 (Below B u w)) (f : Below B u w → Below B u w2 := by intro h; repeat (first | (with_reducible first | exact h | apply below_alloc | apply pw_below_drewN | apply below_drew1 | refine below_set ?_ (Aside0.out (by assumption)) | refine below_set ?_ (IsS197.ge (Aside0.out (by assumption)))) | exact h)) : Below B u w2 := f b.out
def spec_l1New.l0 : Nat → List Int → Int → Int → Option (List Int × Int × Int)
 | 0, _, _, _ => none
 | k + 1, x0, x3, x4 => if x4 < (x0.length : Int) then (if x4 < 4000 then (if 0 ≤ x4 then (spec_l1New.l0 k x0 (Go.bits .and .i64 (wrap64 ((wrap64 ((wrap64 (x3 * 131)) + (wrap64 (rd x0 x4)))) + 7)) 1073741823) (wrap64 (x4 + 1))) else (none)) else (some (x0, 0, x3))) else (some (x0, 0, x3))
def spec_l1New.f (k : Nat) (l0 : List Int) : Option (List Int × Int × Int) := spec_l1New.l0 k l0 (wrap64 (27323 + (l0.length : Int))) 0
theorem spec_l1New.mono_l : ∀ k, (∀ y0 y1 y2, LeO (spec_l1New.l0 k y0 y1 y2) (spec_l1New.l0 (k + 1) y0 y1 y2))
 | 0 => fun _ _ _ r h => by simp [spec_l1New.l0] at h
 | k + 1 => by
  have ih0 := spec_l1New.mono_l k
  ·intro y0 y1 y2
   unfold spec_l1New.l0
   repeat' first
   | (with_reducible exact ih0 _ _ _)
   | (with_reducible exact LeO.refl _)
   | (with_reducible exact LeO.none _)
   | (with_reducible refine LeO.ite ?_ ?_)
   | (with_reducible refine LeO.bind ?_ (fun _ => ?_))
   | exact ih0 _ _ _
   | exact LeO.none _
   | refine LeO.ite ?_ ?_
   | refine LeO.bind ?_ (fun _ => ?_)
theorem spec_l1New.mono : ∀ a0 k, LeO (spec_l1New.f k a0) (spec_l1New.f (k + 1) a0) := by
 intro a0 k
 have ih0 := spec_l1New.mono_l k
 unfold spec_l1New.f
 repeat' first
   | (with_reducible exact ih0 _ _ _)
   | (with_reducible exact LeO.refl _)
   | (with_reducible exact LeO.none _)
   | (with_reducible refine LeO.ite ?_ ?_)
   | (with_reducible refine LeO.bind ?_ (fun _ => ?_))
   | exact ih0 _ _ _
   | exact LeO.none _
   | refine LeO.ite ?_ ?_
   | refine LeO.bind ?_ (fun _ => ?_)
set_option maxHeartbeats 8000000 in
set_option maxRecDepth 100000 in
theorem spec_l1New.calls (k : Nat) (A0 : Option Addr) (c0 : Nat) (l0 : List Int) (r1 : List Int) (r2 : Int) (r3 : Int) (w0 w : World) (hB : Below w0.heap.size w0 w) (hr0 : Kd.C (Kd.int .u8) w0 A0 l0.length l0) (hc0 : l0.length ≤ c0) (h : spec_l1New.f k l0 = some (r1, r2, r3)) :
  Calls Try.prog 105 #[.slice A0 l0.length c0] w fun e w' => ∃ g_ : Nat, e = .returned (.pointer (some ⟨g_, 0, none⟩)) ∧ IsS197 w0 w' g_ r1 r2 r3 ∧ Below w0.heap.size w0 w' ∧ Below w.heap.size w w' := by
 have hu197 := Try.underlying197
 have HR0 := Aside0.mk hr0
 have HC0 := Aside0.mk hc0
 clear hr0 hc0
 have HBW := Aside0.mk (Below.refl w.heap.size w)
 have HW0 := Aside0.mk hB.size
 have HB := Aside0.mk hB
 clear hB
 have H : (spec_l1New.l0 k l0 (wrap64 (27323 + (l0.length : Int))) 0) = some (r1, r2, r3) := h
 clear h
 have H' := Aside0.mk H
 clear H
 go_enter Try.func105, Try.ntmps105
 go_wp2
 go_loopg [3, 4] k (fun kq v3 v4 w' => ∃ (x3_1 : Int) (x4_1 : Int), v3 = .int .i64 x3_1 ∧ v4 = .int .i64 x4_1 ∧ Aside0 (spec_l1New.l0 kq l0 x3_1 x4_1 = some (r1, r2, r3)) ∧ Aside0 (kq ≤ k) ∧ Aside0 (Below w.heap.size w w') ∧ Aside0 (Below w0.heap.size w0 w'))
 case atStart => exact ⟨(wrap64 (27323 + (l0.length : Int))), (0), (by first | rfl | (simp; done) | (simp [*]; done)), (by first | rfl | (simp; done) | (simp [*]; done)), H', ⟨Nat.le_refl _⟩, ⟨tb HBW⟩, ⟨tb HB⟩⟩
 case round =>
  clear H'
  try clear c1
  obtain ⟨x3_1, x4_1, rfl, rfl, HA, HK1, HBW, HB⟩ := hrel
  cases gk with
  | zero => exact absurd HA.out (by simp [spec_l1New.l0])
  | succ k1 =>
   have H := HA.out
   clear HA
   simp only [spec_l1New.l0] at H
   by_cases c2 : x4_1 < (l0.length : Int)
   ·rw [if_pos c2] at H
    have c2b0 := decide_eq_true c2
    clear c2
    by_cases c3 : x4_1 < 4000
    ·rw [if_pos c3] at H
     have c3b0 := decide_eq_true c3
     clear c3
     by_cases c4 : 0 ≤ x4_1
     ·rw [if_pos c4] at H
      have c4b0 := decide_eq_true c4
      clear c4
      have H' := Aside0.mk H
      clear H
      have p706 : 0 ≤ (x4_1 : Int) := od
      have q706 : x4_1 < (l0.length : Int) := od
      obtain ⟨ad706, e706, hx706_0⟩ := Kd.at_int HR0.out x4_1 p706 q706
      cases e706
      replace hx706_0 := pw_cell_below HB.out hx706_0
      replace p706 := eq_true p706
      replace q706 := eq_true q706
      go_wp2
      go_roundg k1
      case measure => have := HK1.out; omega
      case rel => exact ⟨(Go.bits .and .i64 (wrap64 ((wrap64 ((wrap64 (x3_1 * 131)) + (wrap64 (rd l0 x4_1)))) + 7)) 1073741823), (wrap64 (x4_1 + 1)), (by first | rfl | (simp; done) | (simp [*]; done)), (by first | rfl | (simp; done) | (simp [*]; done)), H', ⟨by have := HK1.out; omega⟩, ⟨tb HBW⟩, ⟨tb HB⟩⟩
     ·rw [if_neg c4] at H
      exact absurd H (by simp)
    ·rw [if_neg c3] at H
     have c3b0 := decide_eq_false c3
     clear c3
     simp only [Option.some.injEq, Prod.mk.injEq] at H
     obtain ⟨rfl, rfl, rfl⟩ := H
     go_wp2_with (first | ((with_reducible refine gate_dst (N := 31) rfl ?_); refine bx (N := 31) (cs := #[.slice A0 l0.length c0, .int .i64 0, .int .i64 x3_1]) (t := 197) ?_; intro gb707 hg w5 hbox hb; replace HB := bs HB hb; have BK707 := Aside0.mk (hbox); have GW707 := Aside0.mk (ge_ hg HBW); have GE707 := Aside0.mk ((Nat.le_trans HW0.out (by rw [hg]; exact (below_size (tb HBW)) : w.heap.size ≤ gb707) : w0.heap.size ≤ gb707)); replace HBW := Aside0.mk (below_step HBW.out hb); clear hb hbox hg))
     go_ret
     exact ⟨_, rfl, (show IsS197 w0 _ gb707 l0 0 x3_1 from ⟨_, _, by (with_reducible repeat (first | refine blk_drewN ?_ _ | refine blk_drew ?_ | refine blk_alloc ?_ _)); exact BK707.out, GE707.out, HR0.out⟩), tb HB, by repeat (first | (with_reducible first | exact HBW.out | apply below_alloc | apply pw_below_drewN | apply below_drew1 | refine below_set ?_ GW707.out) | exact HBW.out)⟩
   ·rw [if_neg c2] at H
    have c2b0 := decide_eq_false c2
    clear c2
    simp only [Option.some.injEq, Prod.mk.injEq] at H
    obtain ⟨rfl, rfl, rfl⟩ := H
    go_wp2_with (first | ((with_reducible refine gate_dst (N := 31) rfl ?_); refine bx (N := 31) (cs := #[.slice A0 l0.length c0, .int .i64 0, .int .i64 x3_1]) (t := 197) ?_; intro gb708 hg w6 hbox hb; replace HB := bs HB hb; have BK708 := Aside0.mk (hbox); have GW708 := Aside0.mk (ge_ hg HBW); have GE708 := Aside0.mk ((Nat.le_trans HW0.out (by rw [hg]; exact (below_size (tb HBW)) : w.heap.size ≤ gb708) : w0.heap.size ≤ gb708)); replace HBW := Aside0.mk (below_step HBW.out hb); clear hb hbox hg))
    go_ret
    exact ⟨_, rfl, (show IsS197 w0 _ gb708 l0 0 x3_1 from ⟨_, _, by (with_reducible repeat (first | refine blk_drewN ?_ _ | refine blk_drew ?_ | refine blk_alloc ?_ _)); exact BK708.out, GE708.out, HR0.out⟩), tb HB, by repeat (first | (with_reducible first | exact HBW.out | apply below_alloc | apply pw_below_drewN | apply below_drew1 | refine below_set ?_ GW708.out) | exact HBW.out)⟩
def spec_l1Byte.f (s0_0 : List Int) (s0_1 : Int) (s0_2 : Int) : Option (Int × Int × Int) := if s0_1 < (s0_0.length : Int) then (if 0 ≤ s0_1 then (some (Go.bits .and .i64 (wrap64 ((Go.bits .and .i64 (Go.bits .xor .i64 ((wrap64 ((wrap64 (s0_2 * 6364136223846793005)) + 1442695040888963407)) / 8589934592) ((wrap64 ((wrap64 (s0_2 * 6364136223846793005)) + 1442695040888963407)) / 35184372088832)) 255) + (wrap64 (rd s0_0 s0_1)))) 255, wrap64 (s0_1 + 1), wrap64 ((wrap64 (s0_2 * 6364136223846793005)) + 1442695040888963407))) else (none)) else (some (Go.bits .and .i64 (Go.bits .xor .i64 ((wrap64 ((wrap64 (s0_2 * 6364136223846793005)) + 1442695040888963407)) / 8589934592) ((wrap64 ((wrap64 (s0_2 * 6364136223846793005)) + 1442695040888963407)) / 35184372088832)) 255, s0_1, wrap64 ((wrap64 (s0_2 * 6364136223846793005)) + 1442695040888963407)))
set_option maxHeartbeats 8000000 in
set_option maxRecDepth 100000 in
theorem spec_l1Byte.calls (g : Nat) (s0_0 : List Int) (s0_1 : Int) (s0_2 : Int) (r1 : Int) (r2 : Int) (r3 : Int) (w0 w : World) (hI : IsS197 w0 w g s0_0 s0_1 s0_2) (hB : Below w0.heap.size w0 w) (h : spec_l1Byte.f s0_0 s0_1 s0_2 = some (r1, r2, r3)) :
  Calls Try.prog 191 #[.pointer (some ⟨g, 0, none⟩)] w fun e w' => e = .returned (.int .i64 r1) ∧ IsS197 w0 w' g s0_0 r2 r3 ∧ Below w0.heap.size w0 w' ∧ KeepBut w w' g none := by
 have HI0 := Aside0.mk hI
 have HK := Aside0.mk (KeepBut.refl w g none)
 have HL := Aside0.mk hB.size
 clear hI
 have HW0 := Aside0.mk hB.size
 have HB := Aside0.mk hB
 clear hB
 have H : (if s0_1 < (s0_0.length : Int) then (if 0 ≤ s0_1 then (some (Go.bits .and .i64 (wrap64 ((Go.bits .and .i64 (Go.bits .xor .i64 ((wrap64 ((wrap64 (s0_2 * 6364136223846793005)) + 1442695040888963407)) / 8589934592) ((wrap64 ((wrap64 (s0_2 * 6364136223846793005)) + 1442695040888963407)) / 35184372088832)) 255) + (wrap64 (rd s0_0 s0_1)))) 255, wrap64 (s0_1 + 1), wrap64 ((wrap64 (s0_2 * 6364136223846793005)) + 1442695040888963407))) else (none)) else (some (Go.bits .and .i64 (Go.bits .xor .i64 ((wrap64 ((wrap64 (s0_2 * 6364136223846793005)) + 1442695040888963407)) / 8589934592) ((wrap64 ((wrap64 (s0_2 * 6364136223846793005)) + 1442695040888963407)) / 35184372088832)) 255, s0_1, wrap64 ((wrap64 (s0_2 * 6364136223846793005)) + 1442695040888963407)))) = some (r1, r2, r3) := h
 clear h
 by_cases c2 : s0_1 < (s0_0.length : Int)
 ·rw [if_pos c2] at H
  have c2b0 := decide_eq_true c2
  clear c2
  by_cases c3 : 0 ≤ s0_1
  ·rw [if_pos c3] at H
   have c3b0 := decide_eq_true c3
   clear c3
   simp only [Option.some.injEq, Prod.mk.injEq] at H
   obtain ⟨rfl, rfl, rfl⟩ := H
   obtain ⟨ASz4_0, cSz4_0, HGz4, hgz4, HSz4_0⟩ := HI0.out
   have hcz4_0 := cellS197_0 HGz4
   have hcz4_1 := cellS197_1 HGz4
   have hcz4_2 := cellS197_2 HGz4
   have hfz4_1 := blk_frozen HGz4 1
   have hfz4_2 := blk_frozen HGz4 2
   clear HGz4 hgz4
   have p709 : 0 ≤ (s0_1 : Int) := od
   have q709 : s0_1 < (s0_0.length : Int) := od
   obtain ⟨ad709, e709, hx709_0⟩ := Kd.at_int HSz4_0 s0_1 p709 q709
   cases e709
   have hn709_0 : ad709.block ≠ g := Nat.ne_of_lt (Nat.lt_of_lt_of_le (by have := World.block_lt_of_cell? _ _ hx709_0; first | rwa [add_block] at this | exact this) (IsS197.ge HI0.out))
   replace hx709_0 := pw_cell_below HB.out hx709_0
   replace hx709_0 := (cell_far (p := ⟨g, 2, none⟩) (by first | (rw [add_block]; exact hn709_0) | (show (Addr.add _ _).block ≠ _; rw [add_block]; exact hn709_0) | exact hn709_0) (.int .i64 (wrap64 ((wrap64 (s0_2 * 6364136223846793005)) + 1442695040888963407)))).trans hx709_0
   (try have hy709_0 := fun (n_ : Nat) => (show (((w.drewN n_).setCell ⟨g, 2, none⟩ (.int .i64 (wrap64 ((wrap64 (s0_2 * 6364136223846793005)) + 1442695040888963407))))).cell? _ = some _ from hx709_0))
   clear hn709_0
   replace p709 := eq_true p709
   replace q709 := eq_true q709
   go_enter Try.func191, Try.ntmps191
   go_wp2
   repeat (go_quiet (fail); try go_wp2)
   go_ret
   exact ⟨er, IsS197.go HI0, IsS197.tb HB, kp HK⟩
  ·rw [if_neg c3] at H
   exact absurd H (by simp)
 ·rw [if_neg c2] at H
  have c2b0 := decide_eq_false c2
  clear c2
  simp only [Option.some.injEq, Prod.mk.injEq] at H
  obtain ⟨rfl, rfl, rfl⟩ := H
  obtain ⟨ASz5_0, cSz5_0, HGz5, hgz5, HSz5_0⟩ := HI0.out
  have hcz5_0 := cellS197_0 HGz5
  have hcz5_1 := cellS197_1 HGz5
  have hcz5_2 := cellS197_2 HGz5
  have hfz5_1 := blk_frozen HGz5 1
  have hfz5_2 := blk_frozen HGz5 2
  clear HGz5 hgz5
  go_enter Try.func191, Try.ntmps191
  go_wp2
  repeat (go_quiet (fail); try go_wp2)
  go_ret
  exact ⟨er, IsS197.go HI0, IsS197.tb HB, kp HK⟩
def spec_l1Below.f (s0_0 : List Int) (s0_1 : Int) (s0_2 : Int) (a1 : Int) : Option (Int × Int × Int) := if a1 ≤ 0 then (some (0, s0_1, s0_2)) else (if a1 ≤ 256 then ((spec_l1Byte.f s0_0 s0_1 s0_2).bind fun bt710 => (if a1 = 0 then (none) else (some (Int.tmod bt710.1 a1, bt710.2.1, bt710.2.2)))) else ((spec_l1Byte.f s0_0 s0_1 s0_2).bind fun bt713 => ((spec_l1Byte.f s0_0 bt713.2.1 bt713.2.2).bind fun bt716 => ((spec_l1Byte.f s0_0 bt716.2.1 bt716.2.2).bind fun bt719 => ((spec_l1Byte.f s0_0 bt719.2.1 bt719.2.2).bind fun bt722 => (if a1 = 0 then (none) else (some (Int.tmod (wrap64 ((wrap64 ((wrap64 ((wrap64 (bt713.1 * 16777216)) + (wrap64 (bt716.1 * 65536)))) + (wrap64 (bt719.1 * 256)))) + bt722.1)) a1, bt722.2.1, bt722.2.2))))))))
set_option maxHeartbeats 8000000 in
set_option maxRecDepth 100000 in
theorem spec_l1Below.calls (g : Nat) (s0_0 : List Int) (s0_1 : Int) (s0_2 : Int) (a1 : Int) (r1 : Int) (r2 : Int) (r3 : Int) (w0 w : World) (hI : IsS197 w0 w g s0_0 s0_1 s0_2) (hB : Below w0.heap.size w0 w) (h : spec_l1Below.f s0_0 s0_1 s0_2 a1 = some (r1, r2, r3)) :
  Calls Try.prog 159 #[.pointer (some ⟨g, 0, none⟩), .int .i64 a1] w fun e w' => e = .returned (.int .i64 r1) ∧ IsS197 w0 w' g s0_0 r2 r3 ∧ Below w0.heap.size w0 w' ∧ KeepBut w w' g none := by
 have HI0 := Aside0.mk hI
 have HK := Aside0.mk (KeepBut.refl w g none)
 have HL := Aside0.mk hB.size
 clear hI
 have HW0 := Aside0.mk hB.size
 have HB := Aside0.mk hB
 clear hB
 have H : (if a1 ≤ 0 then (some (0, s0_1, s0_2)) else (if a1 ≤ 256 then ((spec_l1Byte.f s0_0 s0_1 s0_2).bind fun bt710 => (if a1 = 0 then (none) else (some (Int.tmod bt710.1 a1, bt710.2.1, bt710.2.2)))) else ((spec_l1Byte.f s0_0 s0_1 s0_2).bind fun bt713 => ((spec_l1Byte.f s0_0 bt713.2.1 bt713.2.2).bind fun bt716 => ((spec_l1Byte.f s0_0 bt716.2.1 bt716.2.2).bind fun bt719 => ((spec_l1Byte.f s0_0 bt719.2.1 bt719.2.2).bind fun bt722 => (if a1 = 0 then (none) else (some (Int.tmod (wrap64 ((wrap64 ((wrap64 ((wrap64 (bt713.1 * 16777216)) + (wrap64 (bt716.1 * 65536)))) + (wrap64 (bt719.1 * 256)))) + bt722.1)) a1, bt722.2.1, bt722.2.2))))))))) = some (r1, r2, r3) := h
 clear h
 by_cases c3 : a1 ≤ 0
 ·rw [if_pos c3] at H
  have c3b0 := decide_eq_true c3
  clear c3
  simp only [Option.some.injEq, Prod.mk.injEq] at H
  obtain ⟨rfl, rfl, rfl⟩ := H
  go_enter Try.func159, Try.ntmps159
  go_wp2
  go_ret
  exact ⟨er, IsS197.go HI0, IsS197.tb HB, kp HK⟩
 ·rw [if_neg c3] at H
  have c3b0 := decide_eq_false c3
  clear c3
  by_cases c4 : a1 ≤ 256
  ·rw [if_pos c4] at H
   have c4b0 := decide_eq_true c4
   clear c4
   replace H := Option.bind_eq_some_iff.mp H
   obtain ⟨⟨t710, t711, t712⟩, A50, H⟩ := H
   replace H : (if a1 = 0 then (none) else (some (Int.tmod t710 a1, t711, t712))) = some (r1, r2, r3) := H
   have A5 := Aside0.mk A50
   clear A50
   by_cases c6 : a1 = 0
   ·rw [if_pos c6] at H
    exact absurd H (by simp)
   ·rw [if_neg c6] at H
    have c6b0 : (a1 == 0) = false := beq_eq_false_iff_ne.mpr c6
    have c6b1 : (a1 != 0) = true := bne_iff_ne.mpr c6
    simp only [Option.some.injEq, Prod.mk.injEq] at H
    obtain ⟨rfl, rfl, rfl⟩ := H
    go_enter Try.func159, Try.ntmps159
    go_wp2_with (first | ((with_reducible refine gate_callee (f := 191) rfl ?_); refine gL 14 Try.func191 #[.pointer (some ⟨g, 0, none⟩)] ?_; (with_reducible refine (spec_l1Byte.calls g s0_0 s0_1 s0_2 t710 t711 t712 w0 _ ?side1 ?side2 A5.out).mono ?_); (case side1 => repeat (first | (with_reducible first | exact HI0.out | apply IsS197.alloc | apply IsS197.drewN | apply IsS197.drew | apply IsS197.set_1 | apply IsS197.set_2) | exact HI0.out)); (case side2 => repeat (first | (with_reducible first | exact HB.out | apply below_alloc | apply pw_below_drewN | apply below_drew1 | refine below_set ?_ (IsS197.ge HI0.out)) | exact HB.out)); rintro e w7 ⟨rfl, hi, hb, hk⟩; refine ⟨_, rfl, ?_⟩; replace HK := Aside0.mk (KeepBut.trans (kp HK) hk (.inl rfl)); replace HB := Aside0.mk (hb); replace HI0 := Aside0.mk (hi); (try clear hb); (try clear hb2); (try clear hk); (try clear hi)))
    go_ret
    exact ⟨er, IsS197.go HI0, IsS197.tb HB, kp HK⟩
  ·rw [if_neg c4] at H
   have c4b0 := decide_eq_false c4
   clear c4
   replace H := Option.bind_eq_some_iff.mp H
   obtain ⟨⟨t713, t714, t715⟩, A80, H⟩ := H
   replace H : ((spec_l1Byte.f s0_0 t714 t715).bind fun bt716 => ((spec_l1Byte.f s0_0 bt716.2.1 bt716.2.2).bind fun bt719 => ((spec_l1Byte.f s0_0 bt719.2.1 bt719.2.2).bind fun bt722 => (if a1 = 0 then (none) else (some (Int.tmod (wrap64 ((wrap64 ((wrap64 ((wrap64 (t713 * 16777216)) + (wrap64 (bt716.1 * 65536)))) + (wrap64 (bt719.1 * 256)))) + bt722.1)) a1, bt722.2.1, bt722.2.2)))))) = some (r1, r2, r3) := H
   have A8 := Aside0.mk A80
   clear A80
   replace H := Option.bind_eq_some_iff.mp H
   obtain ⟨⟨t716, t717, t718⟩, A90, H⟩ := H
   replace H : ((spec_l1Byte.f s0_0 t717 t718).bind fun bt719 => ((spec_l1Byte.f s0_0 bt719.2.1 bt719.2.2).bind fun bt722 => (if a1 = 0 then (none) else (some (Int.tmod (wrap64 ((wrap64 ((wrap64 ((wrap64 (t713 * 16777216)) + (wrap64 (t716 * 65536)))) + (wrap64 (bt719.1 * 256)))) + bt722.1)) a1, bt722.2.1, bt722.2.2))))) = some (r1, r2, r3) := H
   have A9 := Aside0.mk A90
   clear A90
   replace H := Option.bind_eq_some_iff.mp H
   obtain ⟨⟨t719, t720, t721⟩, A100, H⟩ := H
   replace H : ((spec_l1Byte.f s0_0 t720 t721).bind fun bt722 => (if a1 = 0 then (none) else (some (Int.tmod (wrap64 ((wrap64 ((wrap64 ((wrap64 (t713 * 16777216)) + (wrap64 (t716 * 65536)))) + (wrap64 (t719 * 256)))) + bt722.1)) a1, bt722.2.1, bt722.2.2)))) = some (r1, r2, r3) := H
   have A10 := Aside0.mk A100
   clear A100
   replace H := Option.bind_eq_some_iff.mp H
   obtain ⟨⟨t722, t723, t724⟩, A110, H⟩ := H
   replace H : (if a1 = 0 then (none) else (some (Int.tmod (wrap64 ((wrap64 ((wrap64 ((wrap64 (t713 * 16777216)) + (wrap64 (t716 * 65536)))) + (wrap64 (t719 * 256)))) + t722)) a1, t723, t724))) = some (r1, r2, r3) := H
   have A11 := Aside0.mk A110
   clear A110
   by_cases c12 : a1 = 0
   ·rw [if_pos c12] at H
    exact absurd H (by simp)
   ·rw [if_neg c12] at H
    have c12b0 : (a1 == 0) = false := beq_eq_false_iff_ne.mpr c12
    have c12b1 : (a1 != 0) = true := bne_iff_ne.mpr c12
    simp only [Option.some.injEq, Prod.mk.injEq] at H
    obtain ⟨rfl, rfl, rfl⟩ := H
    go_enter Try.func159, Try.ntmps159
    go_wp2_with (first | ((with_reducible refine gate_callee (f := 191) rfl ?_); refine gL 18 Try.func191 #[.pointer (some ⟨g, 0, none⟩)] ?_; (with_reducible refine (spec_l1Byte.calls g s0_0 s0_1 s0_2 t713 t714 t715 w0 _ ?side1 ?side2 A8.out).mono ?_); (case side1 => repeat (first | (with_reducible first | exact HI0.out | apply IsS197.alloc | apply IsS197.drewN | apply IsS197.drew | apply IsS197.set_1 | apply IsS197.set_2) | exact HI0.out)); (case side2 => repeat (first | (with_reducible first | exact HB.out | apply below_alloc | apply pw_below_drewN | apply below_drew1 | refine below_set ?_ (IsS197.ge HI0.out)) | exact HB.out)); rintro e w13 ⟨rfl, hi, hb, hk⟩; refine ⟨_, rfl, ?_⟩; replace HK := Aside0.mk (KeepBut.trans (kp HK) hk (.inl rfl)); replace HB := Aside0.mk (hb); replace HI0 := Aside0.mk (hi); (try clear hb); (try clear hb2); (try clear hk); (try clear hi)) | ((with_reducible refine gate_callee (f := 191) rfl ?_); refine gL 20 Try.func191 #[.pointer (some ⟨g, 0, none⟩)] ?_; (with_reducible refine (spec_l1Byte.calls g s0_0 t714 t715 t716 t717 t718 w0 _ ?side1 ?side2 A9.out).mono ?_); (case side1 => repeat (first | (with_reducible first | exact HI0.out | apply IsS197.alloc | apply IsS197.drewN | apply IsS197.drew | apply IsS197.set_1 | apply IsS197.set_2) | exact HI0.out)); (case side2 => repeat (first | (with_reducible first | exact HB.out | apply below_alloc | apply pw_below_drewN | apply below_drew1 | refine below_set ?_ (IsS197.ge HI0.out)) | exact HB.out)); rintro e w14 ⟨rfl, hi, hb, hk⟩; refine ⟨_, rfl, ?_⟩; replace HK := Aside0.mk (KeepBut.trans (kp HK) hk (.inl rfl)); replace HB := Aside0.mk (hb); replace HI0 := Aside0.mk (hi); (try clear hb); (try clear hb2); (try clear hk); (try clear hi)) | ((with_reducible refine gate_callee (f := 191) rfl ?_); refine gL 22 Try.func191 #[.pointer (some ⟨g, 0, none⟩)] ?_; (with_reducible refine (spec_l1Byte.calls g s0_0 t717 t718 t719 t720 t721 w0 _ ?side1 ?side2 A10.out).mono ?_); (case side1 => repeat (first | (with_reducible first | exact HI0.out | apply IsS197.alloc | apply IsS197.drewN | apply IsS197.drew | apply IsS197.set_1 | apply IsS197.set_2) | exact HI0.out)); (case side2 => repeat (first | (with_reducible first | exact HB.out | apply below_alloc | apply pw_below_drewN | apply below_drew1 | refine below_set ?_ (IsS197.ge HI0.out)) | exact HB.out)); rintro e w15 ⟨rfl, hi, hb, hk⟩; refine ⟨_, rfl, ?_⟩; replace HK := Aside0.mk (KeepBut.trans (kp HK) hk (.inl rfl)); replace HB := Aside0.mk (hb); replace HI0 := Aside0.mk (hi); (try clear hb); (try clear hb2); (try clear hk); (try clear hi)) | ((with_reducible refine gate_callee (f := 191) rfl ?_); refine gL 24 Try.func191 #[.pointer (some ⟨g, 0, none⟩)] ?_; (with_reducible refine (spec_l1Byte.calls g s0_0 t720 t721 t722 t723 t724 w0 _ ?side1 ?side2 A11.out).mono ?_); (case side1 => repeat (first | (with_reducible first | exact HI0.out | apply IsS197.alloc | apply IsS197.drewN | apply IsS197.drew | apply IsS197.set_1 | apply IsS197.set_2) | exact HI0.out)); (case side2 => repeat (first | (with_reducible first | exact HB.out | apply below_alloc | apply pw_below_drewN | apply below_drew1 | refine below_set ?_ (IsS197.ge HI0.out)) | exact HB.out)); rintro e w16 ⟨rfl, hi, hb, hk⟩; refine ⟨_, rfl, ?_⟩; replace HK := Aside0.mk (KeepBut.trans (kp HK) hk (.inl rfl)); replace HB := Aside0.mk (hb); replace HI0 := Aside0.mk (hi); (try clear hb); (try clear hb2); (try clear hk); (try clear hi)))
    go_ret
    exact ⟨er, IsS197.go HI0, IsS197.tb HB, kp HK⟩
def spec_l1PickInt.f (s0_0 : List Int) (s0_1 : Int) (s0_2 : Int) (l1 : List Int) : Option (Int × Int × Int) := (spec_l1Below.f s0_0 s0_1 s0_2 (l1.length : Int)).bind fun bt725 => (if 0 ≤ bt725.1 then (if bt725.1 < (l1.length : Int) then (some (rd l1 bt725.1, bt725.2.1, bt725.2.2)) else (none)) else (none))
set_option maxHeartbeats 8000000 in
set_option maxRecDepth 100000 in
theorem spec_l1PickInt.calls (g : Nat) (s0_0 : List Int) (s0_1 : Int) (s0_2 : Int) (A1 : Option Addr) (c1 : Nat) (l1 : List Int) (r1 : Int) (r2 : Int) (r3 : Int) (w0 w : World) (hI : IsS197 w0 w g s0_0 s0_1 s0_2) (hB : Below w0.heap.size w0 w) (hr1 : Kd.C (Kd.int .i64) w A1 l1.length l1) (hc1 : l1.length ≤ c1) (hf1 : ∀ ad, A1 = some ad → 0 < l1.length → ad.block ≠ g) (h : spec_l1PickInt.f s0_0 s0_1 s0_2 l1 = some (r1, r2, r3)) :
  Calls Try.prog 160 #[.pointer (some ⟨g, 0, none⟩), .slice A1 l1.length c1] w fun e w' => e = .returned (.int .i64 r1) ∧ IsS197 w0 w' g s0_0 r2 r3 ∧ Below w0.heap.size w0 w' ∧ KeepBut w w' g none := by
 have HR1 := Aside0.mk hr1
 have HC1 := Aside0.mk hc1
 clear hr1 hc1
 have HI0 := Aside0.mk hI
 have HK := Aside0.mk (KeepBut.refl w g none)
 have HL := Aside0.mk hB.size
 clear hI
 have HW0 := Aside0.mk hB.size
 have HB := Aside0.mk hB
 clear hB
 have H : ((spec_l1Below.f s0_0 s0_1 s0_2 (l1.length : Int)).bind fun bt725 => (if 0 ≤ bt725.1 then (if bt725.1 < (l1.length : Int) then (some (rd l1 bt725.1, bt725.2.1, bt725.2.2)) else (none)) else (none))) = some (r1, r2, r3) := h
 clear h
 replace H := Option.bind_eq_some_iff.mp H
 obtain ⟨⟨t725, t726, t727⟩, A30, H⟩ := H
 replace H : (if 0 ≤ t725 then (if t725 < (l1.length : Int) then (some (rd l1 t725, t726, t727)) else (none)) else (none)) = some (r1, r2, r3) := H
 have A3 := Aside0.mk A30
 clear A30
 by_cases c4 : 0 ≤ t725
 ·rw [if_pos c4] at H
  have c4b0 := decide_eq_true c4
  clear c4
  by_cases c5 : t725 < (l1.length : Int)
  ·rw [if_pos c5] at H
   have c5b0 := decide_eq_true c5
   clear c5
   simp only [Option.some.injEq, Prod.mk.injEq] at H
   obtain ⟨rfl, rfl, rfl⟩ := H
   go_enter Try.func160, Try.ntmps160
   go_wp2_with (first | ((with_reducible refine gate_callee (f := 159) rfl ?_); refine gL 9 Try.func159 #[.pointer (some ⟨g, 0, none⟩), .int .i64 (l1.length : Int)] ?_; (with_reducible refine (spec_l1Below.calls g s0_0 s0_1 s0_2 (l1.length : Int) t725 t726 t727 w0 _ ?side1 ?side2 A3.out).mono ?_); (case side1 => repeat (first | (with_reducible first | exact HI0.out | apply IsS197.alloc | apply IsS197.drewN | apply IsS197.drew | apply IsS197.set_1 | apply IsS197.set_2) | exact HI0.out)); (case side2 => repeat (first | (with_reducible first | exact HB.out | apply below_alloc | apply pw_below_drewN | apply below_drew1 | refine below_set ?_ (IsS197.ge HI0.out)) | exact HB.out)); rintro e w6 ⟨rfl, hi, hb, hk⟩; refine ⟨_, rfl, ?_⟩; replace HK := Aside0.mk (KeepBut.trans (kp HK) hk (.inl rfl)); replace HB := Aside0.mk (hb); replace HI0 := Aside0.mk (hi); (try clear hb); (try clear hb2); (try clear hk); (try clear hi); have p728 : 0 ≤ (t725 : Int) := od; have q728 : t725 < (l1.length : Int) := od; obtain ⟨ad728, e728, hx728_0⟩ := Kd.at_int HR1.out t725 p728 q728; cases e728; replace hx728_0 := keep_cell HK.out hx728_0 (by first | (rw [add_block]; exact hf1 _ rfl (by omega)) | exact hf1 _ rfl (by omega) | exact hf1 ad728 rfl (by omega)); replace p728 := eq_true p728; replace q728 := eq_true q728))
   go_ret
   exact ⟨er, IsS197.go HI0, IsS197.tb HB, kp HK⟩
  ·rw [if_neg c5] at H
   exact absurd H (by simp)
 ·rw [if_neg c4] at H
  exact absurd H (by simp)
def spec_RowsNew.f  : Option (List Int × Int) := if 4 ≤ 35184372088832 then (some ((List.replicate 4 0), 0)) else (none)
set_option maxHeartbeats 8000000 in
set_option maxRecDepth 100000 in
theorem spec_RowsNew.calls  (r1 : List Int) (r2 : Int) (w : World) (h : spec_RowsNew.f  = some (r1, r2)) :
  Calls Try.prog 164 #[] w fun e w' => ∃ v0_ : Value, e = .returned (.agg #[v0_, .int .i64 r2]) ∧ Kd.R (Kd.int .i64) 3 w' w.heap.size (fun _ => True) v0_ r1 ∧ Below w.heap.size w w' := by
 have hu65 := Try.underlying65
 have HB := Aside0.mk (Below.refl w.heap.size w)
 have H : (if 4 ≤ 35184372088832 then (some ((List.replicate 4 0), 0)) else (none)) = some (r1, r2) := h
 clear h
 by_cases c1 : 4 ≤ 35184372088832
 ·rw [if_pos c1] at H
  have c1b0 := eq_true c1
  have c1b1 := decide_eq_true c1
  clear c1
  obtain ⟨y730, hy730⟩ : ∃ y_ : List Int, y_ = (List.replicate 4 0) := ⟨_, rfl⟩
  replace H : (some (y730, 0)) = some (r1, r2) := by first | (rw [hy730]; with_reducible exact H) | (have H2_ := (Option.bind_some _ _).symm.trans H; rw [hy730]; with_reducible exact H2_) | (have H2_ := (Option.bind_some _ _).symm.trans H; with_reducible exact H2_) | with_reducible exact H | (rw [hy730]; exact H) | exact H
  have Ny730 := Aside0.mk hy730
  clear hy730
  simp only [Option.some.injEq, Prod.mk.injEq] at H
  obtain ⟨rfl, rfl⟩ := H
  go_enter Try.func164, Try.ntmps164
  go_wp2_with (first | ((with_reducible refine gate_dst (N := 0) rfl ?_); refine bx (N := 0) (cs := #[.slice none 0 0, .int .i64 0]) (t := 65) ?_; intro gb729 hg w2 hbox hb; have BK729 := Aside0.mk (hbox); have GW729 := Aside0.mk (ge_ hg HB); have GE729 := Aside0.mk (ge_ hg HB); replace HB := bs HB hb; clear hb hbox hg) | ((with_reducible refine gate_dst (N := 1) rfl ?_); refine Kd.R_make (Kd.int .i64) _ 3 rfl (N := 1) rfl 22 _ _ rfl 4 rfl rfl Try.underlying22 (.int .i64 0) 8 info3 rfl (by decide) (by omega) 0 (ok := fun _ => True) (okp := fun _ => True) rfl (fun _ hk => hk) trivial (by omega) (by omega) (Below.refl _ _) (Nat.le_refl _) ?_; intro v731 w3 ho4 hb hg_ hnew_; clear hg_ hnew_; (first | rw [← Ny730.out] at ho4 | (simp only [Int.reduceToNat] at ho4; rw [← Ny730.out] at ho4)); have HO732 := Aside0.mk (Kd.R_lower ho4 (below_size (tb HB))); replace BK729 := bb BK729 hb; replace HB := bs HB hb; clear hb ho4; obtain ⟨Ao5, co5, eo5⟩ := Kd.R_slice HO732.out; subst eo5; obtain ⟨hcz6_0, hcz6_1, hfz6_0, hfz6_1⟩ := c2 BK729))
  refine bodyPost_ret (results_cell_row rfl _ _ gb729 65 #[.slice Ao5 y730.length co5, .int .i64 0] (0, 0) _ rfl (by (with_reducible repeat (first | refine blk_drewN ?_ _ | refine blk_drew ?_ | refine blk_alloc ?_ _)); refine blk_put (cs := #[.slice Ao5 y730.length co5, .int .i64 0]) ?_ 1 _ rfl; (with_reducible repeat (first | refine blk_drewN ?_ _ | refine blk_drew ?_ | refine blk_alloc ?_ _)); refine blk_put (cs := #[.slice none 0 0, .int .i64 0]) ?_ 0 _ rfl; (with_reducible repeat (first | refine blk_drewN ?_ _ | refine blk_drew ?_ | refine blk_alloc ?_ _)); exact BK729.out) Try.underlying65 rfl (by kernel_rfl)) rfl ?_
  exact ⟨_, er, by (with_reducible repeat (first | apply Kd.R_alloc | apply Kd.R_drewN | apply Kd.R_drew)); exact Kd.R_mono (Kd.R_far (p := ⟨gb729, 1, none⟩) (Kd.R_far (p := ⟨gb729, 0, none⟩) (Kd.R_types HO732.out BK729.out (by decide)) (fun _ hk => hk.2) (.slice Ao5 y730.length co5)) (fun _ hk => hk.2) (.int .i64 0)) (fun _ hk => trivial), tb HB⟩
 ·rw [if_neg c1] at H
  exact absurd H (by simp)
def spec_l3DrawRight.l0 : Nat → Int → List Int → Int → Int → List Int → Int → Option (List Int × Int × Int × Int)
 | 0, _, _, _, _, _, _ => none
 | k + 1, x4, x1000, x1001, x1002, x739000, x739001 => if x4 < 4 then ((spec_l1Below.f x1000 x1001 x1002 7).bind fun bt745 => ((spec_KeyOf.f k x739000 x739001 bt745.1).bind fun t748 => (if t748 < 0 then (if 0 ≤ x4 then (if x4 < (x739000.length : Int) then (spec_l3DrawRight.l0 k (wrap64 (x4 + 1)) x1000 bt745.2.1 bt745.2.2 (x739000.set (x4 : Int).toNat bt745.1) x739001) else (none)) else (none)) else (spec_l3DrawRight.l0 k (wrap64 (x4 + 1)) x1000 bt745.2.1 bt745.2.2 x739000 x739001)))) else ((spec_l1PickInt.f x1000 x1001 x1002 (([0, 0, 1, 3, 5] : List Int))).bind fun bt742 => (some (x739000, bt742.1, bt742.2.1, bt742.2.2)))
def spec_l3DrawRight.f (k : Nat) (s0_0 : List Int) (s0_1 : Int) (s0_2 : Int) : Option (List Int × Int × Int × Int) := (spec_RowsNew.f).bind fun bt734 => (spec_l3DrawRight.l0 k 0 s0_0 s0_1 s0_2 bt734.1 bt734.2)
theorem spec_l3DrawRight.mono_l : ∀ k, (∀ y0 y1 y2 y3 y4 y5, LeO (spec_l3DrawRight.l0 k y0 y1 y2 y3 y4 y5) (spec_l3DrawRight.l0 (k + 1) y0 y1 y2 y3 y4 y5))
 | 0 => fun _ _ _ _ _ _ r h => by simp [spec_l3DrawRight.l0] at h
 | k + 1 => by
  have ih0 := spec_l3DrawRight.mono_l k
  ·intro y0 y1 y2 y3 y4 y5
   unfold spec_l3DrawRight.l0
   repeat' first
   | (with_reducible exact ih0 _ _ _ _ _ _)
   | (with_reducible exact spec_KeyOf.mono _ _ _ _)
   | (with_reducible exact LeO.refl _)
   | (with_reducible exact LeO.none _)
   | (with_reducible refine LeO.ite ?_ ?_)
   | (with_reducible refine LeO.bind ?_ (fun _ => ?_))
   | exact ih0 _ _ _ _ _ _
   | exact spec_KeyOf.mono _ _ _ _
   | exact LeO.none _
   | refine LeO.ite ?_ ?_
   | refine LeO.bind ?_ (fun _ => ?_)
theorem spec_l3DrawRight.mono : ∀ a0 a1 a2 k, LeO (spec_l3DrawRight.f k a0 a1 a2) (spec_l3DrawRight.f (k + 1) a0 a1 a2) := by
 intro a0 a1 a2 k
 have ih0 := spec_l3DrawRight.mono_l k
 unfold spec_l3DrawRight.f
 repeat' first
   | (with_reducible exact ih0 _ _ _ _ _ _)
   | (with_reducible exact spec_KeyOf.mono _ _ _ _)
   | (with_reducible exact LeO.refl _)
   | (with_reducible exact LeO.none _)
   | (with_reducible refine LeO.ite ?_ ?_)
   | (with_reducible refine LeO.bind ?_ (fun _ => ?_))
   | exact ih0 _ _ _ _ _ _
   | exact spec_KeyOf.mono _ _ _ _
   | exact LeO.none _
   | refine LeO.ite ?_ ?_
   | refine LeO.bind ?_ (fun _ => ?_)
set_option maxHeartbeats 8000000 in
set_option maxRecDepth 100000 in
theorem spec_l3DrawRight.calls (k : Nat) (g : Nat) (s0_0 : List Int) (s0_1 : Int) (s0_2 : Int) (r1 : List Int) (r2 : Int) (r3 : Int) (r4 : Int) (w0 w : World) (hI : IsS197 w0 w g s0_0 s0_1 s0_2) (hB : Below w0.heap.size w0 w) (h : spec_l3DrawRight.f k s0_0 s0_1 s0_2 = some (r1, r2, r3, r4)) :
  Calls Try.prog 112 #[.pointer (some ⟨g, 0, none⟩)] w fun e w' => ∃ v0_ : Value, e = .returned (.agg #[v0_, .int .i64 r2]) ∧ Kd.R (Kd.int .i64) 3 w' w.heap.size (fun _ => True) v0_ r1 ∧ IsS197 w0 w' g s0_0 r3 r4 ∧ Below w0.heap.size w0 w' ∧ KeepBut w w' g none := by
 have hu65 := Try.underlying65
 have HI0 := Aside0.mk hI
 have HK := Aside0.mk (KeepBut.refl w g none)
 have HL := Aside0.mk hB.size
 clear hI
 have HW0 := Aside0.mk hB.size
 have HB := Aside0.mk hB
 clear hB
 have H : ((spec_RowsNew.f).bind fun bt734 => (spec_l3DrawRight.l0 k 0 s0_0 s0_1 s0_2 bt734.1 bt734.2)) = some (r1, r2, r3, r4) := h
 clear h
 replace H := Option.bind_eq_some_iff.mp H
 obtain ⟨⟨t734, t737⟩, A20, H⟩ := H
 replace H : (spec_l3DrawRight.l0 k 0 s0_0 s0_1 s0_2 t734 t737) = some (r1, r2, r3, r4) := H
 have A2 := Aside0.mk A20
 clear A20
 have H' := Aside0.mk H
 clear H
 go_enter Try.func112, Try.ntmps112
 go_wp2_with (first | ((with_reducible refine gate_dst (N := 2) rfl ?_); refine bx (N := 2) (cs := #[.slice none 0 0, .int .i64 0]) (t := 65) ?_; intro gb733 hg w3 hbox hb; replace HB := Aside0.mk (below_step (IsS197.tb HB) hb); have BK733 := Aside0.mk (hbox); have GW733 := Aside0.mk ((by rw [hg]; exact (keep_size (w := w) (g := g) (row := none) (kp HK)) : w.heap.size ≤ gb733)); have GE733 := Aside0.mk ((Nat.le_trans HW0.out (by rw [hg]; exact (keep_size (w := w) (g := g) (row := none) (kp HK)) : w.heap.size ≤ gb733) : w0.heap.size ≤ gb733)); replace HK := Aside0.mk (KeepBut.trans (kp HK) (KeepBut.of_below hb g none) (.inl rfl)); have NB0_733 := Aside0.mk ((by rw [hg]; exact Nat.ne_of_lt (IsS197.lt (show IsS197 w0 _ g s0_0 s0_1 s0_2 from IsS197.go HI0)) : g ≠ gb733)); have NB733_0 := Aside0.mk ((by rw [hg]; exact Nat.ne_of_gt (IsS197.lt (show IsS197 w0 _ g s0_0 s0_1 s0_2 from IsS197.go HI0)) : gb733 ≠ g)); replace HI0 := Aside0.mk (IsS197.below (IsS197.go HI0) hb); clear hb hbox hg) | ((with_reducible refine gate_callee (f := 164) rfl ?_); refine gL 6 Try.func164 #[] ?_; (with_reducible refine (spec_RowsNew.calls  t734 t737 _ A2.out).mono ?_); rintro e w4 ⟨v735, rfl, ho0, hb⟩; refine ⟨_, rfl, ?_⟩; have HO736 := Aside0.mk (Kd.R_lower ho0 (keep_size (w := w) (g := g) (row := none) (kp HK))); replace HI0 := Aside0.mk (IsS197.below (IsS197.go HI0) hb); replace BK733 := bb BK733 hb; replace HK := Aside0.mk (KeepBut.trans (kp HK) (KeepBut.of_below hb g none) (.inl rfl)); replace HB := Aside0.mk (below_step (IsS197.tb HB) hb); (try clear hb); (try clear hb2); (try clear hk); (try clear hi); (try clear ho0)) | ((with_reducible refine gate_dst (N := 3) rfl ?_); refine bx (N := 3) (cs := #[.slice none 0 0, .int .i64 0]) (t := 65) ?_; intro gb738 hg w5 hbox hb; replace HO736 := rb HO736 hb; replace HB := Aside0.mk (below_step (IsS197.tb HB) hb); have BK738 := Aside0.mk (hbox); have GW738 := Aside0.mk ((by rw [hg]; exact (keep_size (w := w) (g := g) (row := none) (kp HK)) : w.heap.size ≤ gb738)); have GE738 := Aside0.mk ((Nat.le_trans HW0.out (by rw [hg]; exact (keep_size (w := w) (g := g) (row := none) (kp HK)) : w.heap.size ≤ gb738) : w0.heap.size ≤ gb738)); replace HK := Aside0.mk (KeepBut.trans (kp HK) (KeepBut.of_below hb g none) (.inl rfl)); have NB733_738 := Aside0.mk (nl_ hg BK733); have NB738_733 := Aside0.mk (ng_ hg BK733); replace BK733 := bb BK733 hb; have NB0_738 := Aside0.mk ((by rw [hg]; exact Nat.ne_of_lt (IsS197.lt (show IsS197 w0 _ g s0_0 s0_1 s0_2 from IsS197.go HI0)) : g ≠ gb738)); have NB738_0 := Aside0.mk ((by rw [hg]; exact Nat.ne_of_gt (IsS197.lt (show IsS197 w0 _ g s0_0 s0_1 s0_2 from IsS197.go HI0)) : gb738 ≠ g)); replace HI0 := Aside0.mk (IsS197.below (IsS197.go HI0) hb); clear hb hbox hg; obtain ⟨Ao6, co6, eo6⟩ := Kd.R_slice HO736.out; subst eo6; have hnb7 := NB738_733.out; have hnc7 := NB733_738.out; have hnb8 := NB738_0.out; have hnc8 := NB0_738.out; obtain ⟨hcz9_0, hcz9_1, hfz9_0, hfz9_1⟩ := c2 BK738))
 go_loopg [4] k (fun kq v4 w' => ∃ (x4_1 : Int) (x1001_1 : Int) (x1002_1 : Int) (x739000_1 : List Int) (u739000 : Value), v4 = .int .i64 x4_1 ∧ Aside0 (spec_l3DrawRight.l0 kq x4_1 s0_0 x1001_1 x1002_1 x739000_1 t737 = some (r1, r2, r3, r4)) ∧ Aside0 (kq ≤ k) ∧ Aside0 (Kd.R (Kd.int .i64) 3 w' w.heap.size (fun _ => True) u739000 x739000_1) ∧ Aside0 (w'.heap[gb733]? = some (.cells #[(.slice none 0 0), .int .i64 0] 65 (0, 0))) ∧ Aside0 (w'.heap[gb738]? = some (.cells #[u739000, .int .i64 t737] 65 (0, 0))) ∧ Aside0 (IsS197 w0 w' g s0_0 x1001_1 x1002_1) ∧ Aside0 (KeepBut w w' g none) ∧ Aside0 (Below w0.heap.size w0 w'))
 case atStart => exact ⟨(0), (s0_1), (s0_2), (t734), (.slice Ao6 t734.length co6), (by first | rfl | (simp; done) | (simp [*]; done)), H', ⟨Nat.le_refl _⟩, ⟨by (with_reducible repeat (first | apply Kd.R_alloc | apply Kd.R_drewN | apply Kd.R_drew)); exact Kd.R_mono (Kd.R_far (p := ⟨gb738, 1, none⟩) (Kd.R_far (p := ⟨gb738, 0, none⟩) (Kd.R_types HO736.out BK738.out (by decide)) (fun _ hk => hk.2) (.slice Ao6 t734.length co6)) (fun _ hk => hk.2) (.int .i64 t737)) (fun _ hk => trivial)⟩, ⟨bf BK733⟩, ⟨by (with_reducible repeat (first | refine blk_drewN ?_ _ | refine blk_drew ?_ | refine blk_alloc ?_ _)); refine blk_put (cs := #[.slice Ao6 t734.length co6, .int .i64 0]) ?_ 1 _ rfl; (with_reducible repeat (first | refine blk_drewN ?_ _ | refine blk_drew ?_ | refine blk_alloc ?_ _)); refine blk_put (cs := #[.slice none 0 0, .int .i64 0]) ?_ 0 _ rfl; (with_reducible repeat (first | refine blk_drewN ?_ _ | refine blk_drew ?_ | refine blk_alloc ?_ _)); exact BK738.out⟩, ⟨IsS197.go HI0⟩, ⟨kp HK⟩, ⟨IsS197.tb HB⟩⟩
 case round =>
  clear H'
  try clear c1
  try clear p2
  try clear c7
  try clear c8
  try clear hcz9_0
  try clear hcz9_1
  try clear hfz9_0
  try clear hfz9_1
  obtain ⟨x4_1, x1001_1, x1002_1, x739000_1, u739000, rfl, HA, HK1, HO_739000, BK733, BK738, HI0, HK, HB⟩ := hrel
  cases gk with
  | zero => exact absurd HA.out (by simp [spec_l3DrawRight.l0])
  | succ k1 =>
   have H := HA.out
   clear HA
   simp only [spec_l3DrawRight.l0] at H
   by_cases c10 : x4_1 < 4
   ·rw [if_pos c10] at H
    have c10b0 := decide_eq_true c10
    clear c10
    replace H := Option.bind_eq_some_iff.mp H
    obtain ⟨⟨t745, t746, t747⟩, A110, H⟩ := H
    replace H : ((spec_KeyOf.f k1 x739000_1 t737 t745).bind fun t748 => (if t748 < 0 then (if 0 ≤ x4_1 then (if x4_1 < (x739000_1.length : Int) then (spec_l3DrawRight.l0 k1 (wrap64 (x4_1 + 1)) s0_0 t746 t747 (x739000_1.set (x4_1 : Int).toNat t745) t737) else (none)) else (none)) else (spec_l3DrawRight.l0 k1 (wrap64 (x4_1 + 1)) s0_0 t746 t747 x739000_1 t737))) = some (r1, r2, r3, r4) := H
    have A11 := Aside0.mk A110
    clear A110
    replace H := Option.bind_eq_some_iff.mp H
    obtain ⟨t748, A120, H⟩ := H
    replace H : (if t748 < 0 then (if 0 ≤ x4_1 then (if x4_1 < (x739000_1.length : Int) then (spec_l3DrawRight.l0 k1 (wrap64 (x4_1 + 1)) s0_0 t746 t747 (x739000_1.set (x4_1 : Int).toNat t745) t737) else (none)) else (none)) else (spec_l3DrawRight.l0 k1 (wrap64 (x4_1 + 1)) s0_0 t746 t747 x739000_1 t737)) = some (r1, r2, r3, r4) := H
    have A12 := Aside0.mk A120
    clear A120
    by_cases c13 : t748 < 0
    ·rw [if_pos c13] at H
     have c13b0 := decide_eq_true c13
     clear c13
     by_cases c14 : 0 ≤ x4_1
     ·rw [if_pos c14] at H
      have c14b0 := decide_eq_true c14
      clear c14
      by_cases c15 : x4_1 < (x739000_1.length : Int)
      ·rw [if_pos c15] at H
       have c15b0 := decide_eq_true c15
       clear c15
       obtain ⟨y749, hy749⟩ : ∃ y_ : List Int, y_ = (x739000_1.set (x4_1 : Int).toNat t745) := ⟨_, rfl⟩
       replace H : (spec_l3DrawRight.l0 k1 (wrap64 (x4_1 + 1)) s0_0 t746 t747 y749 t737) = some (r1, r2, r3, r4) := by first | (rw [hy749]; with_reducible exact H) | (have H2_ := (Option.bind_some _ _).symm.trans H; rw [hy749]; with_reducible exact H2_) | (have H2_ := (Option.bind_some _ _).symm.trans H; with_reducible exact H2_) | with_reducible exact H | (rw [hy749]; exact H) | exact H
       have Ny749 := Aside0.mk hy749
       clear hy749
       have H' := Aside0.mk H
       clear H
       go_wp2_with (first | ((with_reducible refine gate_callee (f := 159) rfl ?_); refine gL 12 Try.func159 #[.pointer (some ⟨g, 0, none⟩), .int .i64 7] ?_; (with_reducible refine (spec_l1Below.calls g s0_0 x1001_1 x1002_1 7 t745 t746 t747 w0 _ ?side1 ?side2 A11.out).mono ?_); (case side1 => repeat (first | (with_reducible first | exact HI0.out | apply IsS197.alloc | apply IsS197.drewN | apply IsS197.drew | apply IsS197.set_1 | apply IsS197.set_2 | refine IsS197.far ?_ NB0_733.out _ | refine IsS197.far ?_ NB0_738.out _) | exact HI0.out)); (case side2 => repeat (first | (with_reducible first | exact HB.out | apply below_alloc | apply pw_below_drewN | apply below_drew1 | refine below_set ?_ (IsS197.ge HI0.out) | refine below_set ?_ GE733.out | refine below_set ?_ GE738.out) | exact HB.out)); rintro e w17 ⟨rfl, hi, hb, hk⟩; refine ⟨_, rfl, ?_⟩; replace HO_739000 := Aside0.mk (Kd.R_mono (Kd.R_keep (IsS197.apart (show IsS197 w0 _ g s0_0 x1001_1 x1002_1 from IsS197.go HI0) (kr HO_739000.out) (by decide)) hk (fun _ h => h.2)) (fun _ h => h.1)); replace BK733 := Aside0.mk (KeepBut.blk hk (g' := gb733) (o := .cells #[.slice none 0 0, .int .i64 0] 65 (0, 0)) (bk BK733) NB733_0.out (by simp)); replace BK738 := Aside0.mk (KeepBut.blk hk (g' := gb738) (o := .cells #[u739000, .int .i64 t737] 65 (0, 0)) (bk BK738) NB738_0.out (by simp)); replace HK := Aside0.mk (KeepBut.trans (kp HK) hk (.inl rfl)); replace HB := Aside0.mk (hb); replace HI0 := Aside0.mk (hi); (try clear hb); (try clear hb2); (try clear hk); (try clear hi); have hnb18 := NB738_733.out; have hnc18 := NB733_738.out; have hnb19 := NB738_0.out; have hnc19 := NB0_738.out; obtain ⟨hcz20_0, hcz20_1, hfz20_0, hfz20_1⟩ := c2 BK738; obtain ⟨Ao21, co21, eo21⟩ := Kd.R_slice HO_739000.out; subst eo21) | ((with_reducible refine gate_callee (f := 165) rfl ?_); refine gL 15 Try.func165 #[.agg #[.slice Ao21 x739000_1.length co21, .int .i64 t737], .int .i64 t745] ?_; (with_reducible refine (spec_KeyOf.calls k1 _ _ x739000_1 t737 t745 t748 _ ?side1 ?side2 A12.out).mono ?_); (case side1 => repeat (first | exact (Kd.R_reads' HO_739000.out).2.2 | (with_reducible refine Kd.C_alloc ?_ _) | (with_reducible refine Kd.C_drewN ?_ _) | (with_reducible refine Kd.C_drew ?_))); (case side2 => exact (Kd.R_reads' HO_739000.out).2.1); rintro e w22 ⟨rfl, hb⟩; refine ⟨_, rfl, ?_⟩; replace HO_739000 := rb HO_739000 hb; replace BK733 := bb BK733 hb; replace BK738 := bb BK738 hb; replace HI0 := Aside0.mk (IsS197.below (IsS197.go HI0) hb); replace HK := Aside0.mk (KeepBut.trans (kp HK) (KeepBut.of_below hb g none) (.inl rfl)); replace HB := Aside0.mk (below_step (IsS197.tb HB) hb); (try clear hb); (try clear hb2); (try clear hk); (try clear hi); obtain ⟨hcz23_0, hcz23_1, hfz23_0, hfz23_1⟩ := c2 BK738; have p16 : 0 ≤ (x4_1 : Int) := od; have q16 : (x4_1 : Int) < ((x739000_1.length : Int) : Int) := od; obtain ⟨go16, co16, eo16, gb16, gl16, cl16, HG16⟩ := Kd.R_form HO_739000.out (by omega); (first | cases eo16 | (injection eo16 with ea_ en_ ec_; (first | subst ea_ | (injection ea_ with ea_; subst ea_)); subst ec_; clear en_)); have GB16 := Aside0.mk gb16; have GG16 := Aside0.mk HG16; clear gb16 gl16 HG16; obtain ⟨hx16_0, hf16_0⟩ := Kd.R_celln 0 HO_739000.out (x4_1 : Int) p16 q16; replace p16 := eq_true p16; replace q16 := eq_true q16; obtain ⟨hy24_, hz24_⟩ := Kd.R_celln 0 HO_739000.out (x4_1 : Int) (od) (od); have HP24 := Kd.R_putg HO_739000.out (x4_1 : Int) t745) | ((with_reducible refine gate_store (t := 3) (p := 21) rfl ?_); refine store_event (t := 3) (p := 21) (v := ?vo_w25) (w1 := (w22.setCell ⟨go16, (x4_1 : Int).toNat, none⟩ (.int .i64 t745))) ?hg ?ho ?hn ?hr ?_; (case ho => rfl); (case hg => rfl); (case hn => rfl); (case hr => first | (go_simp; done) | (go_simp; rfl)); intro w25 hw; have hg : w22.grownBy w25 (some go16) := (by rw [hw]; exact HP24.2); have hp_ : Kd.R (Kd.int .i64) 3 w25 w.heap.size (fun _ => True) (.slice (some ⟨go16, 0, none⟩) x739000_1.length co21) y749 := (by rw [hw, Ny749.out]; exact HP24.1); clear HP24; replace BK733 := Aside0.mk (blk_grown (g := gb733) (o := .cells #[.slice none 0 0, .int .i64 0] 65 (0, 0)) (bk BK733) hg (Kd.R_ne HO_739000.out BK733.out (by decide))); replace BK738 := Aside0.mk (blk_grown (g := gb738) (o := .cells #[.slice (some ⟨go16, 0, none⟩) x739000_1.length co21, .int .i64 t737] 65 (0, 0)) (bk BK738) hg (Kd.R_ne HO_739000.out BK738.out (by decide))); replace HI0 := Aside0.mk (IsS197.grown (IsS197.go HI0) hg (IsS197.own_ne HI0.out HO_739000.out (by decide))); replace HB := Aside0.mk ((by rw [hw]; exact below_set (HB.out) (Nat.le_trans HL.out GB16.out) : Below w0.heap.size w0 w25)); replace HK := Aside0.mk (KeepBut.trans (kp HK) (KeepBut.of_grown hg g) (Kd.R_base2 HO_739000.out)); replace HO_739000 := Aside0.mk (hp_); clear hg hw hp_))
       go_roundg k1
       case measure => have := HK1.out; omega
       case rel => exact ⟨(wrap64 (x4_1 + 1)), (t746), (t747), (y749), (.slice (some ⟨go16, 0, none⟩) x739000_1.length co21), (by first | rfl | (simp; done) | (simp [*]; done)), H', ⟨by have := HK1.out; omega⟩, ⟨kr HO_739000.out⟩, ⟨by (with_reducible repeat (first | refine blk_drewN ?_ _ | refine blk_drew ?_ | refine blk_alloc ?_ _)); exact BK733.out⟩, ⟨by (with_reducible repeat (first | refine blk_drewN ?_ _ | refine blk_drew ?_ | refine blk_alloc ?_ _)); exact BK738.out⟩, ⟨IsS197.go HI0⟩, ⟨kp HK⟩, ⟨IsS197.tb HB⟩⟩
      ·rw [if_neg c15] at H
       exact absurd H (by simp)
     ·rw [if_neg c14] at H
      exact absurd H (by simp)
    ·rw [if_neg c13] at H
     have c13b0 := decide_eq_false c13
     clear c13
     have H' := Aside0.mk H
     clear H
     go_wp2_with (first | ((with_reducible refine gate_callee (f := 159) rfl ?_); refine gL 12 Try.func159 #[.pointer (some ⟨g, 0, none⟩), .int .i64 7] ?_; (with_reducible refine (spec_l1Below.calls g s0_0 x1001_1 x1002_1 7 t745 t746 t747 w0 _ ?side1 ?side2 A11.out).mono ?_); (case side1 => repeat (first | (with_reducible first | exact HI0.out | apply IsS197.alloc | apply IsS197.drewN | apply IsS197.drew | apply IsS197.set_1 | apply IsS197.set_2 | refine IsS197.far ?_ NB0_733.out _ | refine IsS197.far ?_ NB0_738.out _) | exact HI0.out)); (case side2 => repeat (first | (with_reducible first | exact HB.out | apply below_alloc | apply pw_below_drewN | apply below_drew1 | refine below_set ?_ (IsS197.ge HI0.out) | refine below_set ?_ GE733.out | refine below_set ?_ GE738.out) | exact HB.out)); rintro e w26 ⟨rfl, hi, hb, hk⟩; refine ⟨_, rfl, ?_⟩; replace HO_739000 := Aside0.mk (Kd.R_mono (Kd.R_keep (IsS197.apart (show IsS197 w0 _ g s0_0 x1001_1 x1002_1 from IsS197.go HI0) (kr HO_739000.out) (by decide)) hk (fun _ h => h.2)) (fun _ h => h.1)); replace BK733 := Aside0.mk (KeepBut.blk hk (g' := gb733) (o := .cells #[.slice none 0 0, .int .i64 0] 65 (0, 0)) (bk BK733) NB733_0.out (by simp)); replace BK738 := Aside0.mk (KeepBut.blk hk (g' := gb738) (o := .cells #[u739000, .int .i64 t737] 65 (0, 0)) (bk BK738) NB738_0.out (by simp)); replace HK := Aside0.mk (KeepBut.trans (kp HK) hk (.inl rfl)); replace HB := Aside0.mk (hb); replace HI0 := Aside0.mk (hi); (try clear hb); (try clear hb2); (try clear hk); (try clear hi); have hnb27 := NB738_733.out; have hnc27 := NB733_738.out; have hnb28 := NB738_0.out; have hnc28 := NB0_738.out; obtain ⟨hcz29_0, hcz29_1, hfz29_0, hfz29_1⟩ := c2 BK738; obtain ⟨Ao30, co30, eo30⟩ := Kd.R_slice HO_739000.out; subst eo30) | ((with_reducible refine gate_callee (f := 165) rfl ?_); refine gL 15 Try.func165 #[.agg #[.slice Ao30 x739000_1.length co30, .int .i64 t737], .int .i64 t745] ?_; (with_reducible refine (spec_KeyOf.calls k1 _ _ x739000_1 t737 t745 t748 _ ?side1 ?side2 A12.out).mono ?_); (case side1 => repeat (first | exact (Kd.R_reads' HO_739000.out).2.2 | (with_reducible refine Kd.C_alloc ?_ _) | (with_reducible refine Kd.C_drewN ?_ _) | (with_reducible refine Kd.C_drew ?_))); (case side2 => exact (Kd.R_reads' HO_739000.out).2.1); rintro e w31 ⟨rfl, hb⟩; refine ⟨_, rfl, ?_⟩; replace HO_739000 := rb HO_739000 hb; replace BK733 := bb BK733 hb; replace BK738 := bb BK738 hb; replace HI0 := Aside0.mk (IsS197.below (IsS197.go HI0) hb); replace HK := Aside0.mk (KeepBut.trans (kp HK) (KeepBut.of_below hb g none) (.inl rfl)); replace HB := Aside0.mk (below_step (IsS197.tb HB) hb); (try clear hb); (try clear hb2); (try clear hk); (try clear hi)))
     go_roundg k1
     case measure => have := HK1.out; omega
     case rel => exact ⟨(wrap64 (x4_1 + 1)), (t746), (t747), (x739000_1), (.slice Ao30 x739000_1.length co30), (by first | rfl | (simp; done) | (simp [*]; done)), H', ⟨by have := HK1.out; omega⟩, ⟨kr HO_739000.out⟩, ⟨by (with_reducible repeat (first | refine blk_drewN ?_ _ | refine blk_drew ?_ | refine blk_alloc ?_ _)); exact BK733.out⟩, ⟨by (with_reducible repeat (first | refine blk_drewN ?_ _ | refine blk_drew ?_ | refine blk_alloc ?_ _)); exact BK738.out⟩, ⟨IsS197.go HI0⟩, ⟨kp HK⟩, ⟨IsS197.tb HB⟩⟩
   ·rw [if_neg c10] at H
    have c10b0 := decide_eq_false c10
    clear c10
    obtain ⟨y739, hy739⟩ : ∃ y_ : List Int, y_ = (([0, 0, 1, 3, 5] : List Int)) := ⟨_, rfl⟩
    replace H : ((spec_l1PickInt.f s0_0 x1001_1 x1002_1 y739).bind fun bt742 => (some (x739000_1, bt742.1, bt742.2.1, bt742.2.2))) = some (r1, r2, r3, r4) := by first | (rw [hy739]; with_reducible exact H) | (have H2_ := (Option.bind_some _ _).symm.trans H; rw [hy739]; with_reducible exact H2_) | (have H2_ := (Option.bind_some _ _).symm.trans H; with_reducible exact H2_) | with_reducible exact H | (rw [hy739]; exact H) | exact H
    have Ny739 := Aside0.mk hy739
    clear hy739
    replace H := Option.bind_eq_some_iff.mp H
    obtain ⟨⟨t742, t743, t744⟩, A320, H⟩ := H
    replace H : (some (x739000_1, t742, t743, t744)) = some (r1, r2, r3, r4) := H
    have A32 := Aside0.mk A320
    clear A320
    simp only [Option.some.injEq, Prod.mk.injEq] at H
    obtain ⟨rfl, rfl, rfl, rfl⟩ := H
    go_wp2_with (first | ((with_reducible refine gate_dst (N := 23) rfl ?_); refine Kd.R_lit (Kd.int .i64) _ 3 ?hg (N := 23) ?hd (xs := ([0, 0, 1, 3, 5] : List Int)) (inner := [.int .i64 0, .int .i64 0, .int .i64 1, .int .i64 3, .int .i64 5]) (ok := fun _ => True) (okp := fun _ => True) ?hr ?hp (fun _ hk => hk) trivial (Below.refl _ _) (Nat.le_refl _) (by simp) ?_; (case hd => rfl); (case hg => rfl); (case hr => first | (go_simp; done) | (go_simp; rfl)); (case hp => exact (Reps.one (show Kd.M (Kd.int .i64) _ _ _ 0 [.int .i64 0] from rfl) (Reps.one (show Kd.M (Kd.int .i64) _ _ _ 0 [.int .i64 0] from rfl) (Reps.one (show Kd.M (Kd.int .i64) _ _ _ 1 [.int .i64 1] from rfl) (Reps.one (show Kd.M (Kd.int .i64) _ _ _ 3 [.int .i64 3] from rfl) (Reps.one (show Kd.M (Kd.int .i64) _ _ _ 5 [.int .i64 5] from rfl) (Reps.none _ _))))))); intro v740 w33 ho34 hb hg_ hnew_; clear hg_ hnew_; (first | rw [← Ny739.out] at ho34 | (simp only [Int.reduceToNat] at ho34; rw [← Ny739.out] at ho34)); have HO741 := Aside0.mk (Kd.R_lower (Kd.R_new' ho34 (Kd.R_lt (kr HO_739000.out))) (keep_size (w := w) (g := g) (row := none) (kp HK))); replace HO_739000 := Aside0.mk (Kd.R_elder' (kr HO_739000.out) (Kd.R_base ho34) hb); replace BK733 := bb BK733 hb; replace BK738 := bb BK738 hb; replace HI0 := Aside0.mk (IsS197.below (IsS197.go HI0) hb); replace HK := Aside0.mk (KeepBut.trans (kp HK) (KeepBut.of_below hb g none) (.inl rfl)); replace HB := Aside0.mk (below_step (IsS197.tb HB) hb); clear hb ho34; obtain ⟨Ao35, co35, eo35⟩ := Kd.R_slice HO741.out; subst eo35) | ((with_reducible refine gate_callee (f := 160) rfl ?_); refine gL 24 Try.func160 #[.pointer (some ⟨g, 0, none⟩), .slice Ao35 y739.length co35] ?_; (with_reducible refine (spec_l1PickInt.calls g s0_0 x1001_1 x1002_1 _ _ y739 t742 t743 t744 w0 _ ?side1 ?side2 ?side3 ?side4 ?side5 A32.out).mono ?_); (case side1 => repeat (first | (with_reducible first | exact HI0.out | apply IsS197.alloc | apply IsS197.drewN | apply IsS197.drew | apply IsS197.set_1 | apply IsS197.set_2 | refine IsS197.far ?_ NB0_733.out _ | refine IsS197.far ?_ NB0_738.out _) | exact HI0.out)); (case side2 => repeat (first | (with_reducible first | exact HB.out | apply below_alloc | apply pw_below_drewN | apply below_drew1 | refine below_set ?_ (IsS197.ge HI0.out) | refine below_set ?_ GE733.out | refine below_set ?_ GE738.out) | exact HB.out)); (case side3 => repeat (first | exact (Kd.R_reads' HO741.out).2.2 | (with_reducible refine Kd.C_alloc ?_ _) | (with_reducible refine Kd.C_drewN ?_ _) | (with_reducible refine Kd.C_drew ?_))); (case side4 => exact (Kd.R_reads' HO741.out).2.1); (case side5 => exact far_slice (IsS197.own_ne HI0.out HO741.out (by decide))); rintro e w36 ⟨rfl, hi, hb, hk⟩; refine ⟨_, rfl, ?_⟩; replace HO_739000 := Aside0.mk (Kd.R_mono (Kd.R_keep (IsS197.apart (show IsS197 w0 _ g s0_0 x1001_1 x1002_1 from IsS197.go HI0) (kr HO_739000.out) (by decide)) hk (fun _ h => h.2)) (fun _ h => h.1)); replace BK733 := Aside0.mk (KeepBut.blk hk (g' := gb733) (o := .cells #[.slice none 0 0, .int .i64 0] 65 (0, 0)) (bk BK733) NB733_0.out (by simp)); replace BK738 := Aside0.mk (KeepBut.blk hk (g' := gb738) (o := .cells #[u739000, .int .i64 t737] 65 (0, 0)) (bk BK738) NB738_0.out (by simp)); replace HO741 := Aside0.mk (Kd.R_mono (Kd.R_keep (IsS197.apart (show IsS197 w0 _ g s0_0 x1001_1 x1002_1 from IsS197.go HI0) (kr HO741.out) (by decide)) hk (fun _ h => h.2)) (fun _ h => h.1)); replace HK := Aside0.mk (KeepBut.trans (kp HK) hk (.inl rfl)); replace HB := Aside0.mk (hb); replace HI0 := Aside0.mk (hi); (try clear hb); (try clear hb2); (try clear hk); (try clear hi); have hnb37 := NB738_733.out; have hnc37 := NB733_738.out; have hnb38 := NB738_0.out; have hnc38 := NB0_738.out; obtain ⟨hcz39_0, hcz39_1, hfz39_0, hfz39_1⟩ := c2 BK738; obtain ⟨Ao40, co40, eo40⟩ := Kd.R_slice HO_739000.out; subst eo40; have hnb41 := NB733_0.out; have hnc41 := NB0_733.out; obtain ⟨hcz42_0, hcz42_1, hfz42_0, hfz42_1⟩ := c2 BK733))
    refine bodyPost_ret (results_cell_row rfl _ _ gb733 65 #[.slice Ao40 x739000_1.length co40, .int .i64 t742] (0, 0) _ rfl (by (with_reducible repeat (first | refine blk_drewN ?_ _ | refine blk_drew ?_ | refine blk_alloc ?_ _)); refine blk_put (cs := #[.slice Ao40 x739000_1.length co40, .int .i64 0]) ?_ 1 _ rfl; (with_reducible repeat (first | refine blk_drewN ?_ _ | refine blk_drew ?_ | refine blk_alloc ?_ _)); refine blk_put (cs := #[.slice none 0 0, .int .i64 0]) ?_ 0 _ rfl; (with_reducible repeat (first | refine blk_drewN ?_ _ | refine blk_drew ?_ | refine blk_alloc ?_ _)); refine blk_far ?_ NB733_738.out _; (with_reducible repeat (first | refine blk_drewN ?_ _ | refine blk_drew ?_ | refine blk_alloc ?_ _)); exact BK733.out) Try.underlying65 rfl (by kernel_rfl)) rfl ?_
    exact ⟨_, er, by (with_reducible repeat (first | apply Kd.R_alloc | apply Kd.R_drewN | apply Kd.R_drew)); exact Kd.R_mono (Kd.R_far (p := ⟨gb733, 1, none⟩) (Kd.R_far (p := ⟨gb733, 0, none⟩) (Kd.R_far (p := ⟨gb738, 1, none⟩) (Kd.R_types (Kd.R_types HO_739000.out BK738.out (by decide)) BK733.out (by decide)) (fun _ hk => hk.1.2) (.int .i64 t742)) (fun _ hk => hk.2) (.slice Ao40 x739000_1.length co40)) (fun _ hk => hk.2) (.int .i64 t742)) (fun _ hk => trivial), IsS197.go HI0, IsS197.tb HB, kp HK⟩
def spec_l3Draw.f (k : Nat) (s0_0 : List Int) (s0_1 : Int) (s0_2 : Int) : Option (List Int × Int × Int × Int) := (spec_l3DrawRight.f k s0_0 s0_1 s0_2).bind fun bt751 => ((spec_l1Below.f s0_0 bt751.2.2.1 bt751.2.2.2 8).bind fun bt758 => (if bt758.1 = 0 then ((spec_l1PickInt.f s0_0 bt758.2.1 bt758.2.2 (([(-1), 6, 7] : List Int))).bind fun bt764 => (if 1 < (bt751.1.length : Int) then (some ((bt751.1.set (1 : Int).toNat bt764.1), bt751.2.1, bt764.2.1, bt764.2.2)) else (none))) else (if bt758.1 = 1 then (if 0 < (bt751.1.length : Int) then (if 3 < (bt751.1.length : Int) then (some (((bt751.1.set (0 : Int).toNat 3).set (3 : Int).toNat 3), bt751.2.1, bt758.2.1, bt758.2.2)) else (none)) else (none)) else (if bt758.1 = 2 then ((spec_l1PickInt.f s0_0 bt758.2.1 bt758.2.2 (([(-1), 5, 6] : List Int))).bind fun bt773 => (some (bt751.1, bt773.1, bt773.2.1, bt773.2.2))) else (if bt758.1 = 3 then (if 2 ≤ (bt751.1.length : Int) then (some ((bt751.1.take (2 : Int).toNat), bt751.2.1, bt758.2.1, bt758.2.2)) else (none)) else (some (bt751.1, bt751.2.1, bt758.2.1, bt758.2.2)))))))
theorem spec_l3Draw.mono : ∀ a0 a1 a2 k, LeO (spec_l3Draw.f k a0 a1 a2) (spec_l3Draw.f (k + 1) a0 a1 a2) := by
 intro a0 a1 a2 k
 unfold spec_l3Draw.f
 repeat' first
   | (with_reducible exact spec_l3DrawRight.mono _ _ _ _)
   | (with_reducible exact LeO.refl _)
   | (with_reducible exact LeO.none _)
   | (with_reducible refine LeO.ite ?_ ?_)
   | (with_reducible refine LeO.bind ?_ (fun _ => ?_))
   | exact spec_l3DrawRight.mono _ _ _ _
   | exact LeO.none _
   | refine LeO.ite ?_ ?_
   | refine LeO.bind ?_ (fun _ => ?_)
set_option maxHeartbeats 8000000 in
set_option maxRecDepth 100000 in
theorem spec_l3Draw.calls (k : Nat) (g : Nat) (s0_0 : List Int) (s0_1 : Int) (s0_2 : Int) (r1 : List Int) (r2 : Int) (r3 : Int) (r4 : Int) (w0 w : World) (hI : IsS197 w0 w g s0_0 s0_1 s0_2) (hB : Below w0.heap.size w0 w) (h : spec_l3Draw.f k s0_0 s0_1 s0_2 = some (r1, r2, r3, r4)) :
  Calls Try.prog 106 #[.pointer (some ⟨g, 0, none⟩)] w fun e w' => ∃ v0_ : Value, e = .returned (.agg #[v0_, .int .i64 r2]) ∧ Kd.R (Kd.int .i64) 3 w' w.heap.size (fun _ => True) v0_ r1 ∧ IsS197 w0 w' g s0_0 r3 r4 ∧ Below w0.heap.size w0 w' ∧ KeepBut w w' g none := by
 have hu65 := Try.underlying65
 have HI0 := Aside0.mk hI
 have HK := Aside0.mk (KeepBut.refl w g none)
 have HL := Aside0.mk hB.size
 clear hI
 have HW0 := Aside0.mk hB.size
 have HB := Aside0.mk hB
 clear hB
 have H : ((spec_l3DrawRight.f k s0_0 s0_1 s0_2).bind fun bt751 => ((spec_l1Below.f s0_0 bt751.2.2.1 bt751.2.2.2 8).bind fun bt758 => (if bt758.1 = 0 then ((spec_l1PickInt.f s0_0 bt758.2.1 bt758.2.2 (([(-1), 6, 7] : List Int))).bind fun bt764 => (if 1 < (bt751.1.length : Int) then (some ((bt751.1.set (1 : Int).toNat bt764.1), bt751.2.1, bt764.2.1, bt764.2.2)) else (none))) else (if bt758.1 = 1 then (if 0 < (bt751.1.length : Int) then (if 3 < (bt751.1.length : Int) then (some (((bt751.1.set (0 : Int).toNat 3).set (3 : Int).toNat 3), bt751.2.1, bt758.2.1, bt758.2.2)) else (none)) else (none)) else (if bt758.1 = 2 then ((spec_l1PickInt.f s0_0 bt758.2.1 bt758.2.2 (([(-1), 5, 6] : List Int))).bind fun bt773 => (some (bt751.1, bt773.1, bt773.2.1, bt773.2.2))) else (if bt758.1 = 3 then (if 2 ≤ (bt751.1.length : Int) then (some ((bt751.1.take (2 : Int).toNat), bt751.2.1, bt758.2.1, bt758.2.2)) else (none)) else (some (bt751.1, bt751.2.1, bt758.2.1, bt758.2.2)))))))) = some (r1, r2, r3, r4) := h
 clear h
 replace H := Option.bind_eq_some_iff.mp H
 obtain ⟨⟨t751, t754, t755, t756⟩, A20, H⟩ := H
 replace H : ((spec_l1Below.f s0_0 t755 t756 8).bind fun bt758 => (if bt758.1 = 0 then ((spec_l1PickInt.f s0_0 bt758.2.1 bt758.2.2 (([(-1), 6, 7] : List Int))).bind fun bt764 => (if 1 < (t751.length : Int) then (some ((t751.set (1 : Int).toNat bt764.1), t754, bt764.2.1, bt764.2.2)) else (none))) else (if bt758.1 = 1 then (if 0 < (t751.length : Int) then (if 3 < (t751.length : Int) then (some (((t751.set (0 : Int).toNat 3).set (3 : Int).toNat 3), t754, bt758.2.1, bt758.2.2)) else (none)) else (none)) else (if bt758.1 = 2 then ((spec_l1PickInt.f s0_0 bt758.2.1 bt758.2.2 (([(-1), 5, 6] : List Int))).bind fun bt773 => (some (t751, bt773.1, bt773.2.1, bt773.2.2))) else (if bt758.1 = 3 then (if 2 ≤ (t751.length : Int) then (some ((t751.take (2 : Int).toNat), t754, bt758.2.1, bt758.2.2)) else (none)) else (some (t751, t754, bt758.2.1, bt758.2.2))))))) = some (r1, r2, r3, r4) := H
 have A2 := Aside0.mk A20
 clear A20
 replace H := Option.bind_eq_some_iff.mp H
 obtain ⟨⟨t758, t759, t760⟩, A30, H⟩ := H
 replace H : (if t758 = 0 then ((spec_l1PickInt.f s0_0 t759 t760 (([(-1), 6, 7] : List Int))).bind fun bt764 => (if 1 < (t751.length : Int) then (some ((t751.set (1 : Int).toNat bt764.1), t754, bt764.2.1, bt764.2.2)) else (none))) else (if t758 = 1 then (if 0 < (t751.length : Int) then (if 3 < (t751.length : Int) then (some (((t751.set (0 : Int).toNat 3).set (3 : Int).toNat 3), t754, t759, t760)) else (none)) else (none)) else (if t758 = 2 then ((spec_l1PickInt.f s0_0 t759 t760 (([(-1), 5, 6] : List Int))).bind fun bt773 => (some (t751, bt773.1, bt773.2.1, bt773.2.2))) else (if t758 = 3 then (if 2 ≤ (t751.length : Int) then (some ((t751.take (2 : Int).toNat), t754, t759, t760)) else (none)) else (some (t751, t754, t759, t760)))))) = some (r1, r2, r3, r4) := H
 have A3 := Aside0.mk A30
 clear A30
 by_cases c4 : t758 = 0
 ·rw [if_pos c4] at H
  have c4b0 : (t758 == 0) = true := beq_iff_eq.mpr c4
  have c4b1 : (t758 != 0) = false := bne_eq_false_iff_eq.mpr c4
  clear c4
  obtain ⟨y761, hy761⟩ : ∃ y_ : List Int, y_ = (([(-1), 6, 7] : List Int)) := ⟨_, rfl⟩
  replace H : ((spec_l1PickInt.f s0_0 t759 t760 y761).bind fun bt764 => (if 1 < (t751.length : Int) then (some ((t751.set (1 : Int).toNat bt764.1), t754, bt764.2.1, bt764.2.2)) else (none))) = some (r1, r2, r3, r4) := by first | (rw [hy761]; with_reducible exact H) | (have H2_ := (Option.bind_some _ _).symm.trans H; rw [hy761]; with_reducible exact H2_) | (have H2_ := (Option.bind_some _ _).symm.trans H; with_reducible exact H2_) | with_reducible exact H | (rw [hy761]; exact H) | exact H
  have Ny761 := Aside0.mk hy761
  clear hy761
  replace H := Option.bind_eq_some_iff.mp H
  obtain ⟨⟨t764, t765, t766⟩, A50, H⟩ := H
  replace H : (if 1 < (t751.length : Int) then (some ((t751.set (1 : Int).toNat t764), t754, t765, t766)) else (none)) = some (r1, r2, r3, r4) := H
  have A5 := Aside0.mk A50
  clear A50
  by_cases c6 : 1 < (t751.length : Int)
  ·rw [if_pos c6] at H
   have c6b0 := decide_eq_true c6
   have c6b1 : decide (1 < t751.length) = true := decide_eq_true (by omega)
   clear c6
   obtain ⟨y767, hy767⟩ : ∃ y_ : List Int, y_ = (t751.set (1 : Int).toNat t764) := ⟨_, rfl⟩
   replace H : (some (y767, t754, t765, t766)) = some (r1, r2, r3, r4) := by first | (rw [hy767]; with_reducible exact H) | (have H2_ := (Option.bind_some _ _).symm.trans H; rw [hy767]; with_reducible exact H2_) | (have H2_ := (Option.bind_some _ _).symm.trans H; with_reducible exact H2_) | with_reducible exact H | (rw [hy767]; exact H) | exact H
   have Ny767 := Aside0.mk hy767
   clear hy767
   simp only [Option.some.injEq, Prod.mk.injEq] at H
   obtain ⟨rfl, rfl, rfl, rfl⟩ := H
   go_enter Try.func106, Try.ntmps106
   try go_wp2_with (first | ((with_reducible refine gate_dst (N := 2) rfl ?_); refine bx (N := 2) (cs := #[.slice none 0 0, .int .i64 0]) (t := 65) ?_; intro gb750 hg w8 hbox hb; replace HB := Aside0.mk (below_step (IsS197.tb HB) hb); have BK750 := Aside0.mk (hbox); have GW750 := Aside0.mk ((by rw [hg]; exact (keep_size (w := w) (g := g) (row := none) (kp HK)) : w.heap.size ≤ gb750)); have GE750 := Aside0.mk ((Nat.le_trans HW0.out (by rw [hg]; exact (keep_size (w := w) (g := g) (row := none) (kp HK)) : w.heap.size ≤ gb750) : w0.heap.size ≤ gb750)); replace HK := Aside0.mk (KeepBut.trans (kp HK) (KeepBut.of_below hb g none) (.inl rfl)); have NB0_750 := Aside0.mk ((by rw [hg]; exact Nat.ne_of_lt (IsS197.lt (show IsS197 w0 _ g s0_0 s0_1 s0_2 from IsS197.go HI0)) : g ≠ gb750)); have NB750_0 := Aside0.mk ((by rw [hg]; exact Nat.ne_of_gt (IsS197.lt (show IsS197 w0 _ g s0_0 s0_1 s0_2 from IsS197.go HI0)) : gb750 ≠ g)); replace HI0 := Aside0.mk (IsS197.below (IsS197.go HI0) hb); clear hb hbox hg) | ((with_reducible refine gate_callee (f := 112) rfl ?_); refine gL 5 Try.func112 #[.pointer (some ⟨g, 0, none⟩)] ?_; (with_reducible refine (spec_l3DrawRight.calls k g s0_0 s0_1 s0_2 t751 t754 t755 t756 w0 _ ?side1 ?side2 A2.out).mono ?_); (case side1 => repeat (first | (with_reducible first | exact HI0.out | apply IsS197.alloc | apply IsS197.drewN | apply IsS197.drew | apply IsS197.set_1 | apply IsS197.set_2 | refine IsS197.far ?_ NB0_750.out _) | exact HI0.out)); (case side2 => repeat (first | (with_reducible first | exact HB.out | apply below_alloc | apply pw_below_drewN | apply below_drew1 | refine below_set ?_ (IsS197.ge HI0.out) | refine below_set ?_ GE750.out) | exact HB.out)); rintro e w9 ⟨v752, rfl, ho0, hi, hb, hk⟩; refine ⟨_, rfl, ?_⟩; replace BK750 := Aside0.mk (KeepBut.blk hk (g' := gb750) (o := .cells #[.slice none 0 0, .int .i64 0] 65 (0, 0)) (bk BK750) NB750_0.out (by simp)); have HO753 := Aside0.mk (Kd.R_lower ho0 (keep_size (w := w) (g := g) (row := none) (kp HK))); replace HK := Aside0.mk (KeepBut.trans (kp HK) hk (.inl rfl)); replace HB := Aside0.mk (hb); replace HI0 := Aside0.mk (hi); (try clear hb); (try clear hb2); (try clear hk); (try clear hi); (try clear ho0)) | ((with_reducible refine gate_dst (N := 3) rfl ?_); refine bx (N := 3) (cs := #[.slice none 0 0, .int .i64 0]) (t := 65) ?_; intro gb757 hg w10 hbox hb; replace HO753 := rb HO753 hb; replace HB := Aside0.mk (below_step (IsS197.tb HB) hb); have BK757 := Aside0.mk (hbox); have GW757 := Aside0.mk ((by rw [hg]; exact (keep_size (w := w) (g := g) (row := none) (kp HK)) : w.heap.size ≤ gb757)); have GE757 := Aside0.mk ((Nat.le_trans HW0.out (by rw [hg]; exact (keep_size (w := w) (g := g) (row := none) (kp HK)) : w.heap.size ≤ gb757) : w0.heap.size ≤ gb757)); replace HK := Aside0.mk (KeepBut.trans (kp HK) (KeepBut.of_below hb g none) (.inl rfl)); have NB750_757 := Aside0.mk (nl_ hg BK750); have NB757_750 := Aside0.mk (ng_ hg BK750); replace BK750 := bb BK750 hb; have NB0_757 := Aside0.mk ((by rw [hg]; exact Nat.ne_of_lt (IsS197.lt (show IsS197 w0 _ g s0_0 t755 t756 from IsS197.go HI0)) : g ≠ gb757)); have NB757_0 := Aside0.mk ((by rw [hg]; exact Nat.ne_of_gt (IsS197.lt (show IsS197 w0 _ g s0_0 t755 t756 from IsS197.go HI0)) : gb757 ≠ g)); replace HI0 := Aside0.mk (IsS197.below (IsS197.go HI0) hb); clear hb hbox hg; obtain ⟨Ao11, co11, eo11⟩ := Kd.R_slice HO753.out; subst eo11; have hnb12 := NB757_750.out; have hnc12 := NB750_757.out; have hnb13 := NB757_0.out; have hnc13 := NB0_757.out; obtain ⟨hcz14_0, hcz14_1, hfz14_0, hfz14_1⟩ := c2 BK757) | ((with_reducible refine gate_callee (f := 159) rfl ?_); refine gL 7 Try.func159 #[.pointer (some ⟨g, 0, none⟩), .int .i64 8] ?_; (with_reducible refine (spec_l1Below.calls g s0_0 t755 t756 8 t758 t759 t760 w0 _ ?side1 ?side2 A3.out).mono ?_); (case side1 => repeat (first | (with_reducible first | exact HI0.out | apply IsS197.alloc | apply IsS197.drewN | apply IsS197.drew | apply IsS197.set_1 | apply IsS197.set_2 | refine IsS197.far ?_ NB0_750.out _ | refine IsS197.far ?_ NB0_757.out _) | exact HI0.out)); (case side2 => repeat (first | (with_reducible first | exact HB.out | apply below_alloc | apply pw_below_drewN | apply below_drew1 | refine below_set ?_ (IsS197.ge HI0.out) | refine below_set ?_ GE750.out | refine below_set ?_ GE757.out) | exact HB.out)); rintro e w15 ⟨rfl, hi, hb, hk⟩; refine ⟨_, rfl, ?_⟩; replace BK750 := Aside0.mk (KeepBut.blk hk (g' := gb750) (o := .cells #[.slice none 0 0, .int .i64 0] 65 (0, 0)) (bf BK750) NB750_0.out (by simp)); replace HO753 := Aside0.mk (Kd.R_mono (Kd.R_keep (IsS197.apart (show IsS197 w0 _ g s0_0 t755 t756 from IsS197.go HI0) (kr ((Kd.R_mono (Kd.R_far (p := ⟨gb757, 1, none⟩) (Kd.R_far (p := ⟨gb757, 0, none⟩) (Kd.R_types HO753.out BK757.out (by decide)) (fun _ hk => hk.2) (.slice Ao11 t751.length co11)) (fun _ hk => hk.2) (.int .i64 t754)) (fun _ h_ => h_.1)))) (by decide)) hk (fun _ h => h.2)) (fun _ h => h.1)); replace BK757 := Aside0.mk (KeepBut.blk hk (g' := gb757) (o := .cells #[.slice Ao11 t751.length co11, .int .i64 t754] 65 (0, 0)) (by (with_reducible repeat (first | refine blk_drewN ?_ _ | refine blk_drew ?_ | refine blk_alloc ?_ _)); refine blk_put (cs := #[.slice Ao11 t751.length co11, .int .i64 0]) ?_ 1 _ rfl; (with_reducible repeat (first | refine blk_drewN ?_ _ | refine blk_drew ?_ | refine blk_alloc ?_ _)); refine blk_put (cs := #[.slice none 0 0, .int .i64 0]) ?_ 0 _ rfl; (with_reducible repeat (first | refine blk_drewN ?_ _ | refine blk_drew ?_ | refine blk_alloc ?_ _)); exact BK757.out) NB757_0.out (by simp)); replace HK := Aside0.mk (KeepBut.trans (kp HK) hk (.inl rfl)); replace HB := Aside0.mk (hb); replace HI0 := Aside0.mk (hi); (try clear hb); (try clear hb2); (try clear hk); (try clear hi)))
   replace HO753 := rd_ HO753
   replace BK750 := bd BK750
   replace BK757 := bd BK757
   replace HI0 := Aside0.mk (IsS197.drew HI0.out)
   replace HK := Aside0.mk (keep_drew HK.out)
   replace HB := Aside0.mk (below_drew1 HB.out)
   refine start_ (n := 7) (S := fun w' => w'.cell? ⟨gb757, 0, none⟩ = some (.slice Ao11 t751.length co11) ∧ w'.cell? ⟨gb757, 1, none⟩ = some (.int .i64 t754)) (ds := [6]) #[false, false, false, false, false, false, false] (by kernel_rfl) rfl rfl ⟨cz BK757 0, cz BK757 1⟩ (fun hHeld => ?_)
   generalize w15.drew = w16 at HO753 BK750 BK757 HI0 HK HB hHeld ⊢
   refine pu 0 10 ?_
   refine pu 2 12 ?_
   refine ta 1 11 ?_
   refine one_ (i := 3) (N := some 13) #[true, true, true, true, false, false, false] rfl rfl (by kernel_rfl) (by decide) (fun K hK => ?_)
   refine Kd.R_lit_step (Kd.int .i64) _ 3 ?hg (N := 13) ?hd (xs := ([(-1), 6, 7] : List Int)) (inner := [.int .i64 (-1), .int .i64 6, .int .i64 7]) (ok := fun _ => True) (okp := fun _ => True) ?hr ?hp (fun _ hk => hk) trivial (Below.refl _ _) (Nat.le_refl _) (by simp) ?_; (case hd => rfl); (case hg => rfl); (case hr => first | (go_simp; done) | (go_simp; rfl)); (case hp => exact (Reps.one (show Kd.M (Kd.int .i64) _ _ _ (-1) [.int .i64 (-1)] from rfl) (Reps.one (show Kd.M (Kd.int .i64) _ _ _ 6 [.int .i64 6] from rfl) (Reps.one (show Kd.M (Kd.int .i64) _ _ _ 7 [.int .i64 7] from rfl) (Reps.none _ _)))))
   intro v762 w17 ho18 hb hg_ hnew_
   clear hg_ hnew_
   (first | rw [← Ny761.out] at ho18 | (simp only [Int.reduceToNat] at ho18; rw [← Ny761.out] at ho18))
   have HO763 := Aside0.mk (Kd.R_lower (Kd.R_new' ho18 (Kd.R_lt (kr HO753.out))) (keep_size (w := w) (g := g) (row := none) (kp HK)))
   replace HO753 := Aside0.mk (Kd.R_elder' (kr HO753.out) (Kd.R_base ho18) hb)
   replace HI0 := Aside0.mk (IsS197.below (IsS197.go HI0) hb)
   replace BK750 := bb BK750 hb
   replace BK757 := bb BK757 hb
   replace HK := Aside0.mk (KeepBut.trans (kp HK) (KeepBut.of_below hb g none) (.inl rfl))
   replace HB := Aside0.mk (below_step (IsS197.tb HB) hb)
   clear hb ho18
   obtain ⟨Ao19, co19, eo19⟩ := Kd.R_slice HO763.out
   (first | subst eo19 | (injection eo19 with f1_ f2_ f3_; have f4_ := f1_.symm; have f5_ := f3_.symm; clear f1_ f2_ f3_; subst f4_; subst f5_))
   refine hK.out _ _ ⟨cz BK757 0, cz BK757 1⟩ (fun hHeld => ?_)
   clear hK K
   refine nm 13 ?_
   refine one_ (i := 4) (N := some 14) #[true, true, true, true, true, false, false] rfl rfl (by kernel_rfl) (by decide) (fun K hK => ?_)
   refine gS Try.func160 #[.pointer (some ⟨g, 0, none⟩), .slice Ao19 y761.length co19] ?_
   with_reducible refine (spec_l1PickInt.calls g s0_0 t759 t760 _ _ y761 t764 t765 t766 w0 _ ?side1 ?side2 ?side3 ?side4 ?side5 A5.out).mono ?_
   (case side1 => repeat (first | (with_reducible first | exact HI0.out | apply IsS197.alloc | apply IsS197.drewN | apply IsS197.drew | apply IsS197.set_1 | apply IsS197.set_2 | refine IsS197.far ?_ NB0_750.out _ | refine IsS197.far ?_ NB0_757.out _) | exact HI0.out))
   (case side2 => repeat (first | (with_reducible first | exact HB.out | apply below_alloc | apply pw_below_drewN | apply below_drew1 | refine below_set ?_ (IsS197.ge HI0.out) | refine below_set ?_ GE750.out | refine below_set ?_ GE757.out) | exact HB.out))
   (case side3 => repeat (first | exact (Kd.R_reads' HO763.out).2.2 | (with_reducible refine Kd.C_alloc ?_ _) | (with_reducible refine Kd.C_drewN ?_ _) | (with_reducible refine Kd.C_drew ?_)))
   (case side4 => exact (Kd.R_reads' HO763.out).2.1)
   (case side5 => exact far_slice (IsS197.own_ne HI0.out HO763.out (by decide)))
   rintro e w20 ⟨rfl, hi, hb, hk⟩
   refine ⟨_, rfl, ?_⟩
   replace BK750 := Aside0.mk (KeepBut.blk hk (g' := gb750) (o := .cells #[.slice none 0 0, .int .i64 0] 65 (0, 0)) (bk BK750) NB750_0.out (by simp))
   replace HO753 := Aside0.mk (Kd.R_mono (Kd.R_keep (IsS197.apart (show IsS197 w0 _ g s0_0 t759 t760 from IsS197.go HI0) (kr HO753.out) (by decide)) hk (fun _ h => h.2)) (fun _ h => h.1))
   replace BK757 := Aside0.mk (KeepBut.blk hk (g' := gb757) (o := .cells #[.slice Ao11 t751.length co11, .int .i64 t754] 65 (0, 0)) (bk BK757) NB757_0.out (by simp))
   replace HO763 := Aside0.mk (Kd.R_mono (Kd.R_keep (IsS197.apart (show IsS197 w0 _ g s0_0 t759 t760 from IsS197.go HI0) (kr HO763.out) (by decide)) hk (fun _ h => h.2)) (fun _ h => h.1))
   replace HK := Aside0.mk (KeepBut.trans (kp HK) hk (.inl rfl))
   replace HB := Aside0.mk (hb)
   replace HI0 := Aside0.mk (hi)
   (try clear hb)
   (try clear hb2)
   (try clear hk)
   (try clear hi)
   have p7 : 0 ≤ (1 : Int) := (by omega)
   have q7 : (1 : Int) < ((t751.length : Int) : Int) := od
   have qi7 : (1 < t751.length) = True := eq_true (by omega)
   obtain ⟨go7, co7, eo7, gb7, gl7, cl7, HG7⟩ := Kd.R_form HO753.out (by omega)
   (first | cases eo7 | (injection eo7 with ea_ en_ ec_; (first | subst ea_ | (injection ea_ with ea_; subst ea_)); subst ec_; clear en_))
   have GB7 := Aside0.mk gb7
   have GG7 := Aside0.mk HG7
   clear gb7 gl7 HG7
   obtain ⟨hx7_0, hf7_0⟩ := Kd.R_celln 0 HO753.out (1 : Int) p7 q7
   (try rw [show ((1 : Int)).toNat = 1 from rfl] at hx7_0)
   (try simp only [Nat.reduceMul, Nat.zero_mul, Nat.zero_add, Nat.reduceAdd] at hx7_0)
   (try rw [show ((1 : Int)).toNat = 1 from rfl] at hf7_0)
   (try simp only [Nat.reduceMul, Nat.zero_mul, Nat.zero_add, Nat.reduceAdd] at hf7_0)
   replace p7 := eq_true p7
   replace q7 := eq_true q7
   have HN0_go7 := Aside0.mk (show g ≠ go7 from by have h_ := IsS197.own_ne HI0.out HO753.out (by decide); intro e_; exact h_ (by rw [e_]; rfl))
   have HP21 := Kd.R_putn HO753.out (1 : Int) t764
   rw [← Ny767.out] at HP21
   have HQ21 := Aside0.mk HP21
   clear HP21
   refine hK.out _ _ ⟨cz BK757 0, cz BK757 1⟩ (fun hHeld => ?_)
   clear hK K
   refine nm 14 ?_
   refine pu 5 15 ?_
   refine last_ (i := 6) (N := none) #[true, true, true, true, true, true, true] rfl rfl (by kernel_rfl) (by decide) (fun K hK => ?_)
   refine skip_ (w1 := ?_) (by rfl) rfl ?_ ?_
   rotate_left
   ·go_simp
    rfl
   refine hK.out _ _ ?_
   clear hK K
   refine done_ (by kernel_rfl) ?_
   have n0_ : Aside0 (Kd.R (Kd.int .i64) 3 (w20.setCell ⟨go7, 1, none⟩ (.int .i64 t764)) w.heap.size (fun k_ => some k_ ≠ (.slice Ao19 y761.length co19 : Value).ownBlock) (.slice (some ⟨go7, 0, none⟩) t751.length co11) y767) := ⟨by (with_reducible repeat (first | apply Kd.R_alloc | apply Kd.R_drewN | apply Kd.R_drew)); exact Kd.R_mono HQ21.out (fun _ hk => hk.2)⟩
   have n1_ : Aside0 (Kd.R (Kd.int .i64) 3 (w20.setCell ⟨go7, 1, none⟩ (.int .i64 t764)) w.heap.size (fun k_ => some k_ ≠ (.slice (some ⟨go7, 0, none⟩) t751.length co11 : Value).ownBlock) (.slice Ao19 y761.length co19) y761) := ⟨by (with_reducible repeat (first | apply Kd.R_alloc | apply Kd.R_drewN | apply Kd.R_drew)); exact Kd.R_mono (Kd.R_far (p := ⟨go7, 1, none⟩) (Kd.R_mono HO763.out (fun k_ hk => (⟨hk, fun e_ => hk.2 (by rw [e_]; rfl)⟩ : _ ∧ k_ ≠ go7))) (fun _ hk => hk.2) (.int .i64 t764)) (fun _ hk => hk.1.2)⟩
   have n2_ : Aside0 ((w20.setCell ⟨go7, 1, none⟩ (.int .i64 t764)).heap[gb750]? = some (.cells #[.slice none 0 0, .int .i64 0] 65 (0, 0))) := ⟨by (with_reducible repeat (first | refine blk_drewN ?_ _ | refine blk_drew ?_ | refine blk_alloc ?_ _)); refine blk_far ?_ (by have h_ := Kd.R_ne HO753.out BK750.out (by decide); intro e_; exact h_ (by rw [e_]; rfl)) _; (with_reducible repeat (first | refine blk_drewN ?_ _ | refine blk_drew ?_ | refine blk_alloc ?_ _)); exact BK750.out⟩
   have n3_ : Aside0 ((w20.setCell ⟨go7, 1, none⟩ (.int .i64 t764)).heap[gb757]? = some (.cells #[.slice (some ⟨go7, 0, none⟩) t751.length co11, .int .i64 t754] 65 (0, 0))) := ⟨by (with_reducible repeat (first | refine blk_drewN ?_ _ | refine blk_drew ?_ | refine blk_alloc ?_ _)); refine blk_far ?_ (by have h_ := Kd.R_ne HO753.out BK757.out (by decide); intro e_; exact h_ (by rw [e_]; rfl)) _; (with_reducible repeat (first | refine blk_drewN ?_ _ | refine blk_drew ?_ | refine blk_alloc ?_ _)); exact BK757.out⟩
   have n4_ : Aside0 (IsS197 w0 (w20.setCell ⟨go7, 1, none⟩ (.int .i64 t764)) g s0_0 t765 t766) := ⟨by repeat (first | (with_reducible first | exact HI0.out | apply IsS197.alloc | apply IsS197.drewN | apply IsS197.drew | apply IsS197.set_1 | apply IsS197.set_2 | refine IsS197.far ?_ HN0_go7.out _ | refine IsS197.far ?_ NB0_750.out _ | refine IsS197.far ?_ NB0_757.out _) | exact HI0.out)⟩
   have n5_ : Aside0 (KeepBut w (w20.setCell ⟨go7, 1, none⟩ (.int .i64 t764)) g none) := ⟨by repeat (first | (with_reducible first | exact HK.out | apply KeepBut.set_ | apply keep_drewN | apply keep_drew | apply keep_alloc | refine keep_far ?_ GB7.out _ | refine keep_far ?_ GW750.out _ | refine keep_far ?_ GW757.out _) | exact HK.out)⟩
   have n6_ : Aside0 (Below w0.heap.size w0 (w20.setCell ⟨go7, 1, none⟩ (.int .i64 t764))) := ⟨by repeat (first | (with_reducible first | exact HB.out | apply below_alloc | apply pw_below_drewN | apply below_drew1 | refine below_set ?_ (Nat.le_trans HL.out GB7.out) | refine below_set ?_ (IsS197.ge HI0.out) | refine below_set ?_ GE750.out | refine below_set ?_ GE757.out) | exact HB.out)⟩
   (try clear HO753)
   (try clear HO763)
   (try clear BK750)
   (try clear BK757)
   (try clear HI0)
   (try clear HK)
   (try clear HB)
   generalize (w20.setCell ⟨go7, 1, none⟩ (.int .i64 t764)) = w22 at n0_ n1_ n2_ n3_ n4_ n5_ n6_ ⊢
   have HO753 := n0_
   have HO763 := n1_
   have BK750 := n2_
   have BK757 := n3_
   have HI0 := n4_
   have HK := n5_
   have HB := n6_
   clear n0_ n1_ n2_ n3_ n4_ n5_ n6_
   obtain ⟨hcz23_0, hcz23_1, hfz23_0, hfz23_1⟩ := c2 BK757
   have hnb24 := NB750_0.out
   have hnc24 := NB0_750.out
   obtain ⟨hcz25_0, hcz25_1, hfz25_0, hfz25_1⟩ := c2 BK750
   try go_wp2
   refine bodyPost_ret (results_cell_row rfl _ _ gb750 65 #[.slice (some ⟨go7, 0, none⟩) t751.length co11, .int .i64 t754] (0, 0) _ rfl (by (with_reducible repeat (first | refine blk_drewN ?_ _ | refine blk_drew ?_ | refine blk_alloc ?_ _)); refine blk_put (cs := #[.slice (some ⟨go7, 0, none⟩) t751.length co11, .int .i64 0]) ?_ 1 _ rfl; (with_reducible repeat (first | refine blk_drewN ?_ _ | refine blk_drew ?_ | refine blk_alloc ?_ _)); refine blk_put (cs := #[.slice none 0 0, .int .i64 0]) ?_ 0 _ rfl; (with_reducible repeat (first | refine blk_drewN ?_ _ | refine blk_drew ?_ | refine blk_alloc ?_ _)); exact BK750.out) Try.underlying65 rfl (by kernel_rfl)) rfl ?_
   exact ⟨_, er, by (with_reducible repeat (first | apply Kd.R_alloc | apply Kd.R_drewN | apply Kd.R_drew)); exact Kd.R_mono (Kd.R_far (p := ⟨gb750, 1, none⟩) (Kd.R_far (p := ⟨gb750, 0, none⟩) (Kd.R_types HO753.out BK750.out (by decide)) (fun _ hk => hk.2) (.slice (some ⟨go7, 0, none⟩) t751.length co11)) (fun _ hk => hk.2) (.int .i64 t754)) (fun _ hk => trivial), IsS197.go HI0, IsS197.tb HB, kp HK⟩
  ·rw [if_neg c6] at H
   exact absurd H (by simp)
 ·rw [if_neg c4] at H
  have c4b0 : (t758 == 0) = false := beq_eq_false_iff_ne.mpr c4
  have c4b1 : (t758 != 0) = true := bne_iff_ne.mpr c4
  by_cases c26 : t758 = 1
  ·rw [if_pos c26] at H
   have c26b0 : (t758 == 1) = true := beq_iff_eq.mpr c26
   have c26b1 : (t758 != 1) = false := bne_eq_false_iff_eq.mpr c26
   clear c26
   by_cases c27 : 0 < (t751.length : Int)
   ·rw [if_pos c27] at H
    have c27b0 := decide_eq_true c27
    have c27b1 : decide (0 < t751.length) = true := decide_eq_true (by omega)
    clear c27
    obtain ⟨y768, hy768⟩ : ∃ y_ : List Int, y_ = (t751.set (0 : Int).toNat 3) := ⟨_, rfl⟩
    replace H : (if 3 < (t751.length : Int) then (some ((y768.set (3 : Int).toNat 3), t754, t759, t760)) else (none)) = some (r1, r2, r3, r4) := by first | (rw [hy768]; with_reducible exact H) | (have H2_ := (Option.bind_some _ _).symm.trans H; rw [hy768]; with_reducible exact H2_) | (have H2_ := (Option.bind_some _ _).symm.trans H; with_reducible exact H2_) | with_reducible exact H | (rw [hy768]; exact H) | exact H
    have Ny768 := Aside0.mk hy768
    clear hy768
    by_cases c29 : 3 < (t751.length : Int)
    ·rw [if_pos c29] at H
     have c29b0 := decide_eq_true c29
     have c29b1 : decide (3 < t751.length) = true := decide_eq_true (by omega)
     clear c29
     obtain ⟨y769, hy769⟩ : ∃ y_ : List Int, y_ = (y768.set (3 : Int).toNat 3) := ⟨_, rfl⟩
     replace H : (some (y769, t754, t759, t760)) = some (r1, r2, r3, r4) := by first | (rw [hy769]; with_reducible exact H) | (have H2_ := (Option.bind_some _ _).symm.trans H; rw [hy769]; with_reducible exact H2_) | (have H2_ := (Option.bind_some _ _).symm.trans H; with_reducible exact H2_) | with_reducible exact H | (rw [hy769]; exact H) | exact H
     have Ny769 := Aside0.mk hy769
     clear hy769
     simp only [Option.some.injEq, Prod.mk.injEq] at H
     obtain ⟨rfl, rfl, rfl, rfl⟩ := H
     go_enter Try.func106, Try.ntmps106
     go_wp2_with (first | ((with_reducible refine gate_dst (N := 2) rfl ?_); refine bx (N := 2) (cs := #[.slice none 0 0, .int .i64 0]) (t := 65) ?_; intro gb750 hg w31 hbox hb; replace HB := Aside0.mk (below_step (IsS197.tb HB) hb); have BK750 := Aside0.mk (hbox); have GW750 := Aside0.mk ((by rw [hg]; exact (keep_size (w := w) (g := g) (row := none) (kp HK)) : w.heap.size ≤ gb750)); have GE750 := Aside0.mk ((Nat.le_trans HW0.out (by rw [hg]; exact (keep_size (w := w) (g := g) (row := none) (kp HK)) : w.heap.size ≤ gb750) : w0.heap.size ≤ gb750)); replace HK := Aside0.mk (KeepBut.trans (kp HK) (KeepBut.of_below hb g none) (.inl rfl)); have NB0_750 := Aside0.mk ((by rw [hg]; exact Nat.ne_of_lt (IsS197.lt (show IsS197 w0 _ g s0_0 s0_1 s0_2 from IsS197.go HI0)) : g ≠ gb750)); have NB750_0 := Aside0.mk ((by rw [hg]; exact Nat.ne_of_gt (IsS197.lt (show IsS197 w0 _ g s0_0 s0_1 s0_2 from IsS197.go HI0)) : gb750 ≠ g)); replace HI0 := Aside0.mk (IsS197.below (IsS197.go HI0) hb); clear hb hbox hg) | ((with_reducible refine gate_callee (f := 112) rfl ?_); refine gL 5 Try.func112 #[.pointer (some ⟨g, 0, none⟩)] ?_; (with_reducible refine (spec_l3DrawRight.calls k g s0_0 s0_1 s0_2 t751 t754 t755 t756 w0 _ ?side1 ?side2 A2.out).mono ?_); (case side1 => repeat (first | (with_reducible first | exact HI0.out | apply IsS197.alloc | apply IsS197.drewN | apply IsS197.drew | apply IsS197.set_1 | apply IsS197.set_2 | refine IsS197.far ?_ NB0_750.out _) | exact HI0.out)); (case side2 => repeat (first | (with_reducible first | exact HB.out | apply below_alloc | apply pw_below_drewN | apply below_drew1 | refine below_set ?_ (IsS197.ge HI0.out) | refine below_set ?_ GE750.out) | exact HB.out)); rintro e w32 ⟨v752, rfl, ho0, hi, hb, hk⟩; refine ⟨_, rfl, ?_⟩; replace BK750 := Aside0.mk (KeepBut.blk hk (g' := gb750) (o := .cells #[.slice none 0 0, .int .i64 0] 65 (0, 0)) (bk BK750) NB750_0.out (by simp)); have HO753 := Aside0.mk (Kd.R_lower ho0 (keep_size (w := w) (g := g) (row := none) (kp HK))); replace HK := Aside0.mk (KeepBut.trans (kp HK) hk (.inl rfl)); replace HB := Aside0.mk (hb); replace HI0 := Aside0.mk (hi); (try clear hb); (try clear hb2); (try clear hk); (try clear hi); (try clear ho0)) | ((with_reducible refine gate_dst (N := 3) rfl ?_); refine bx (N := 3) (cs := #[.slice none 0 0, .int .i64 0]) (t := 65) ?_; intro gb757 hg w33 hbox hb; replace HO753 := rb HO753 hb; replace HB := Aside0.mk (below_step (IsS197.tb HB) hb); have BK757 := Aside0.mk (hbox); have GW757 := Aside0.mk ((by rw [hg]; exact (keep_size (w := w) (g := g) (row := none) (kp HK)) : w.heap.size ≤ gb757)); have GE757 := Aside0.mk ((Nat.le_trans HW0.out (by rw [hg]; exact (keep_size (w := w) (g := g) (row := none) (kp HK)) : w.heap.size ≤ gb757) : w0.heap.size ≤ gb757)); replace HK := Aside0.mk (KeepBut.trans (kp HK) (KeepBut.of_below hb g none) (.inl rfl)); have NB750_757 := Aside0.mk (nl_ hg BK750); have NB757_750 := Aside0.mk (ng_ hg BK750); replace BK750 := bb BK750 hb; have NB0_757 := Aside0.mk ((by rw [hg]; exact Nat.ne_of_lt (IsS197.lt (show IsS197 w0 _ g s0_0 t755 t756 from IsS197.go HI0)) : g ≠ gb757)); have NB757_0 := Aside0.mk ((by rw [hg]; exact Nat.ne_of_gt (IsS197.lt (show IsS197 w0 _ g s0_0 t755 t756 from IsS197.go HI0)) : gb757 ≠ g)); replace HI0 := Aside0.mk (IsS197.below (IsS197.go HI0) hb); clear hb hbox hg; obtain ⟨Ao34, co34, eo34⟩ := Kd.R_slice HO753.out; subst eo34; have hnb35 := NB757_750.out; have hnc35 := NB750_757.out; have hnb36 := NB757_0.out; have hnc36 := NB0_757.out; obtain ⟨hcz37_0, hcz37_1, hfz37_0, hfz37_1⟩ := c2 BK757) | ((with_reducible refine gate_callee (f := 159) rfl ?_); refine gL 7 Try.func159 #[.pointer (some ⟨g, 0, none⟩), .int .i64 8] ?_; (with_reducible refine (spec_l1Below.calls g s0_0 t755 t756 8 t758 t759 t760 w0 _ ?side1 ?side2 A3.out).mono ?_); (case side1 => repeat (first | (with_reducible first | exact HI0.out | apply IsS197.alloc | apply IsS197.drewN | apply IsS197.drew | apply IsS197.set_1 | apply IsS197.set_2 | refine IsS197.far ?_ NB0_750.out _ | refine IsS197.far ?_ NB0_757.out _) | exact HI0.out)); (case side2 => repeat (first | (with_reducible first | exact HB.out | apply below_alloc | apply pw_below_drewN | apply below_drew1 | refine below_set ?_ (IsS197.ge HI0.out) | refine below_set ?_ GE750.out | refine below_set ?_ GE757.out) | exact HB.out)); rintro e w38 ⟨rfl, hi, hb, hk⟩; refine ⟨_, rfl, ?_⟩; replace BK750 := Aside0.mk (KeepBut.blk hk (g' := gb750) (o := .cells #[.slice none 0 0, .int .i64 0] 65 (0, 0)) (bf BK750) NB750_0.out (by simp)); replace HO753 := Aside0.mk (Kd.R_mono (Kd.R_keep (IsS197.apart (show IsS197 w0 _ g s0_0 t755 t756 from IsS197.go HI0) (kr ((Kd.R_mono (Kd.R_far (p := ⟨gb757, 1, none⟩) (Kd.R_far (p := ⟨gb757, 0, none⟩) (Kd.R_types HO753.out BK757.out (by decide)) (fun _ hk => hk.2) (.slice Ao34 t751.length co34)) (fun _ hk => hk.2) (.int .i64 t754)) (fun _ h_ => h_.1)))) (by decide)) hk (fun _ h => h.2)) (fun _ h => h.1)); replace BK757 := Aside0.mk (KeepBut.blk hk (g' := gb757) (o := .cells #[.slice Ao34 t751.length co34, .int .i64 t754] 65 (0, 0)) (by (with_reducible repeat (first | refine blk_drewN ?_ _ | refine blk_drew ?_ | refine blk_alloc ?_ _)); refine blk_put (cs := #[.slice Ao34 t751.length co34, .int .i64 0]) ?_ 1 _ rfl; (with_reducible repeat (first | refine blk_drewN ?_ _ | refine blk_drew ?_ | refine blk_alloc ?_ _)); refine blk_put (cs := #[.slice none 0 0, .int .i64 0]) ?_ 0 _ rfl; (with_reducible repeat (first | refine blk_drewN ?_ _ | refine blk_drew ?_ | refine blk_alloc ?_ _)); exact BK757.out) NB757_0.out (by simp)); replace HK := Aside0.mk (KeepBut.trans (kp HK) hk (.inl rfl)); replace HB := Aside0.mk (hb); replace HI0 := Aside0.mk (hi); (try clear hb); (try clear hb2); (try clear hk); (try clear hi); obtain ⟨hcz39_0, hcz39_1, hfz39_0, hfz39_1⟩ := c2 BK757; have p28 : 0 ≤ (0 : Int) := (by omega); have q28 : (0 : Int) < ((t751.length : Int) : Int) := od; have qi28 : (0 < t751.length) = True := eq_true (by omega); obtain ⟨go28, co28, eo28, gb28, gl28, cl28, HG28⟩ := Kd.R_form HO753.out (by omega); (first | cases eo28 | (injection eo28 with ea_ en_ ec_; (first | subst ea_ | (injection ea_ with ea_; subst ea_)); subst ec_; clear en_)); have GB28 := Aside0.mk gb28; have GG28 := Aside0.mk HG28; clear gb28 gl28 HG28; obtain ⟨hx28_0, hf28_0⟩ := Kd.R_celln 0 HO753.out (0 : Int) p28 q28; (try rw [show ((0 : Int)).toNat = 0 from rfl] at hx28_0); (try simp only [Nat.reduceMul, Nat.zero_mul, Nat.zero_add, Nat.reduceAdd] at hx28_0); (try rw [show ((0 : Int)).toNat = 0 from rfl] at hf28_0); (try simp only [Nat.reduceMul, Nat.zero_mul, Nat.zero_add, Nat.reduceAdd] at hf28_0); replace p28 := eq_true p28; replace q28 := eq_true q28; obtain ⟨hy40_, hz40_⟩ := Kd.R_celln 0 HO753.out (0 : Int) (by omega) (od); (try simp only [Int.reduceToNat, Int.toNat_zero, Int.toNat_ofNat, Nat.reduceMul, Nat.zero_mul, Nat.zero_add] at hy40_ hz40_); (try rw [show ((0 : Int)).toNat = 0 from rfl] at hy40_); (try rw [show ((0 : Int)).toNat = 0 from rfl] at hz40_); have HP40 := Kd.R_putg HO753.out (0 : Int) 3) | ((with_reducible refine gate_store (t := 3) (p := 20) rfl ?_); refine store_event (t := 3) (p := 20) (v := ?vo_w41) (w1 := (w38.setCell ⟨go28, (0 : Int).toNat, none⟩ (.int .i64 3))) ?hg ?ho ?hn ?hr ?_; (case ho => rfl); (case hg => rfl); (case hn => rfl); (case hr => first | (go_simp; done) | (go_simp; rfl)); intro w41 hw; have hg : w38.grownBy w41 (some go28) := (by rw [hw]; exact HP40.2); have hp_ : Kd.R (Kd.int .i64) 3 w41 w.heap.size (fun _ => True) (.slice (some ⟨go28, 0, none⟩) t751.length co34) y768 := (by rw [hw, Ny768.out]; exact HP40.1); clear HP40; replace HI0 := Aside0.mk (IsS197.grown (IsS197.go HI0) hg (IsS197.own_ne HI0.out HO753.out (by decide))); replace BK750 := Aside0.mk (blk_grown (g := gb750) (o := .cells #[.slice none 0 0, .int .i64 0] 65 (0, 0)) (bk BK750) hg (Kd.R_ne HO753.out BK750.out (by decide))); replace BK757 := Aside0.mk (blk_grown (g := gb757) (o := .cells #[.slice (some ⟨go28, 0, none⟩) t751.length co34, .int .i64 t754] 65 (0, 0)) (bk BK757) hg (Kd.R_ne HO753.out BK757.out (by decide))); replace HB := Aside0.mk ((by rw [hw]; exact below_set (HB.out) (Nat.le_trans HL.out GB28.out) : Below w0.heap.size w0 w41)); replace HK := Aside0.mk (KeepBut.trans (kp HK) (KeepBut.of_grown hg g) (Kd.R_base2 HO753.out)); replace HO753 := Aside0.mk (hp_); clear hg hw hp_; obtain ⟨hcz42_0, hcz42_1, hfz42_0, hfz42_1⟩ := c2 BK757; have p30 : 0 ≤ (3 : Int) := (by omega); have q30 : (3 : Int) < ((t751.length : Int) : Int) := od; have qi30 : (3 < t751.length) = True := eq_true (by omega); obtain ⟨hx30_0, hf30_0⟩ := Kd.R_celln 0 HO753.out (3 : Int) p30 q30; (try rw [show ((3 : Int)).toNat = 3 from rfl] at hx30_0); (try simp only [Nat.reduceMul, Nat.zero_mul, Nat.zero_add, Nat.reduceAdd] at hx30_0); (try rw [show ((3 : Int)).toNat = 3 from rfl] at hf30_0); (try simp only [Nat.reduceMul, Nat.zero_mul, Nat.zero_add, Nat.reduceAdd] at hf30_0); replace p30 := eq_true p30; replace q30 := eq_true q30; obtain ⟨hy43_, hz43_⟩ := Kd.R_celln 0 HO753.out (3 : Int) (by omega) (od); (try simp only [Int.reduceToNat, Int.toNat_zero, Int.toNat_ofNat, Nat.reduceMul, Nat.zero_mul, Nat.zero_add] at hy43_ hz43_); (try rw [show ((3 : Int)).toNat = 3 from rfl] at hy43_); (try rw [show ((3 : Int)).toNat = 3 from rfl] at hz43_); have HP43 := Kd.R_putg HO753.out (3 : Int) 3) | ((with_reducible refine gate_store (t := 3) (p := 23) rfl ?_); refine store_event (t := 3) (p := 23) (v := ?vo_w44) (w1 := (w41.setCell ⟨go28, (3 : Int).toNat, none⟩ (.int .i64 3))) ?hg ?ho ?hn ?hr ?_; (case ho => rfl); (case hg => rfl); (case hn => rfl); (case hr => first | (go_simp; done) | (go_simp; rfl)); intro w44 hw; have hg : w41.grownBy w44 (some go28) := (by rw [hw]; exact HP43.2); have hp_ : Kd.R (Kd.int .i64) 3 w44 w.heap.size (fun _ => True) (.slice (some ⟨go28, 0, none⟩) t751.length co34) y769 := (by rw [hw, Ny769.out]; exact HP43.1); clear HP43; replace HI0 := Aside0.mk (IsS197.grown (IsS197.go HI0) hg (IsS197.own_ne HI0.out HO753.out (by decide))); replace BK750 := Aside0.mk (blk_grown (g := gb750) (o := .cells #[.slice none 0 0, .int .i64 0] 65 (0, 0)) (bk BK750) hg (Kd.R_ne HO753.out BK750.out (by decide))); replace BK757 := Aside0.mk (blk_grown (g := gb757) (o := .cells #[.slice (some ⟨go28, 0, none⟩) t751.length co34, .int .i64 t754] 65 (0, 0)) (bk BK757) hg (Kd.R_ne HO753.out BK757.out (by decide))); replace HB := Aside0.mk ((by rw [hw]; exact below_set (HB.out) (Nat.le_trans HL.out GB28.out) : Below w0.heap.size w0 w44)); replace HK := Aside0.mk (KeepBut.trans (kp HK) (KeepBut.of_grown hg g) (Kd.R_base2 HO753.out)); replace HO753 := Aside0.mk (hp_); clear hg hw hp_; obtain ⟨hcz45_0, hcz45_1, hfz45_0, hfz45_1⟩ := c2 BK757; have hnb46 := NB750_0.out; have hnc46 := NB0_750.out; obtain ⟨hcz47_0, hcz47_1, hfz47_0, hfz47_1⟩ := c2 BK750))
     refine bodyPost_ret (results_cell_row rfl _ _ gb750 65 #[.slice (some ⟨go28, 0, none⟩) t751.length co34, .int .i64 t754] (0, 0) _ rfl (by (with_reducible repeat (first | refine blk_drewN ?_ _ | refine blk_drew ?_ | refine blk_alloc ?_ _)); refine blk_put (cs := #[.slice (some ⟨go28, 0, none⟩) t751.length co34, .int .i64 0]) ?_ 1 _ rfl; (with_reducible repeat (first | refine blk_drewN ?_ _ | refine blk_drew ?_ | refine blk_alloc ?_ _)); refine blk_put (cs := #[.slice none 0 0, .int .i64 0]) ?_ 0 _ rfl; (with_reducible repeat (first | refine blk_drewN ?_ _ | refine blk_drew ?_ | refine blk_alloc ?_ _)); exact BK750.out) Try.underlying65 rfl (by kernel_rfl)) rfl ?_
     exact ⟨_, er, by (with_reducible repeat (first | apply Kd.R_alloc | apply Kd.R_drewN | apply Kd.R_drew)); exact Kd.R_mono (Kd.R_far (p := ⟨gb750, 1, none⟩) (Kd.R_far (p := ⟨gb750, 0, none⟩) (Kd.R_types HO753.out BK750.out (by decide)) (fun _ hk => hk.2) (.slice (some ⟨go28, 0, none⟩) t751.length co34)) (fun _ hk => hk.2) (.int .i64 t754)) (fun _ hk => trivial), IsS197.go HI0, IsS197.tb HB, kp HK⟩
    ·rw [if_neg c29] at H
     exact absurd H (by simp)
   ·rw [if_neg c27] at H
    exact absurd H (by simp)
  ·rw [if_neg c26] at H
   have c26b0 : (t758 == 1) = false := beq_eq_false_iff_ne.mpr c26
   have c26b1 : (t758 != 1) = true := bne_iff_ne.mpr c26
   by_cases c48 : t758 = 2
   ·rw [if_pos c48] at H
    have c48b0 : (t758 == 2) = true := beq_iff_eq.mpr c48
    have c48b1 : (t758 != 2) = false := bne_eq_false_iff_eq.mpr c48
    clear c48
    obtain ⟨y770, hy770⟩ : ∃ y_ : List Int, y_ = (([(-1), 5, 6] : List Int)) := ⟨_, rfl⟩
    replace H : ((spec_l1PickInt.f s0_0 t759 t760 y770).bind fun bt773 => (some (t751, bt773.1, bt773.2.1, bt773.2.2))) = some (r1, r2, r3, r4) := by first | (rw [hy770]; with_reducible exact H) | (have H2_ := (Option.bind_some _ _).symm.trans H; rw [hy770]; with_reducible exact H2_) | (have H2_ := (Option.bind_some _ _).symm.trans H; with_reducible exact H2_) | with_reducible exact H | (rw [hy770]; exact H) | exact H
    have Ny770 := Aside0.mk hy770
    clear hy770
    replace H := Option.bind_eq_some_iff.mp H
    obtain ⟨⟨t773, t774, t775⟩, A490, H⟩ := H
    replace H : (some (t751, t773, t774, t775)) = some (r1, r2, r3, r4) := H
    have A49 := Aside0.mk A490
    clear A490
    simp only [Option.some.injEq, Prod.mk.injEq] at H
    obtain ⟨rfl, rfl, rfl, rfl⟩ := H
    go_enter Try.func106, Try.ntmps106
    go_wp2_with (first | ((with_reducible refine gate_dst (N := 2) rfl ?_); refine bx (N := 2) (cs := #[.slice none 0 0, .int .i64 0]) (t := 65) ?_; intro gb750 hg w50 hbox hb; replace HB := Aside0.mk (below_step (IsS197.tb HB) hb); have BK750 := Aside0.mk (hbox); have GW750 := Aside0.mk ((by rw [hg]; exact (keep_size (w := w) (g := g) (row := none) (kp HK)) : w.heap.size ≤ gb750)); have GE750 := Aside0.mk ((Nat.le_trans HW0.out (by rw [hg]; exact (keep_size (w := w) (g := g) (row := none) (kp HK)) : w.heap.size ≤ gb750) : w0.heap.size ≤ gb750)); replace HK := Aside0.mk (KeepBut.trans (kp HK) (KeepBut.of_below hb g none) (.inl rfl)); have NB0_750 := Aside0.mk ((by rw [hg]; exact Nat.ne_of_lt (IsS197.lt (show IsS197 w0 _ g s0_0 s0_1 s0_2 from IsS197.go HI0)) : g ≠ gb750)); have NB750_0 := Aside0.mk ((by rw [hg]; exact Nat.ne_of_gt (IsS197.lt (show IsS197 w0 _ g s0_0 s0_1 s0_2 from IsS197.go HI0)) : gb750 ≠ g)); replace HI0 := Aside0.mk (IsS197.below (IsS197.go HI0) hb); clear hb hbox hg) | ((with_reducible refine gate_callee (f := 112) rfl ?_); refine gL 5 Try.func112 #[.pointer (some ⟨g, 0, none⟩)] ?_; (with_reducible refine (spec_l3DrawRight.calls k g s0_0 s0_1 s0_2 t751 t754 t755 t756 w0 _ ?side1 ?side2 A2.out).mono ?_); (case side1 => repeat (first | (with_reducible first | exact HI0.out | apply IsS197.alloc | apply IsS197.drewN | apply IsS197.drew | apply IsS197.set_1 | apply IsS197.set_2 | refine IsS197.far ?_ NB0_750.out _) | exact HI0.out)); (case side2 => repeat (first | (with_reducible first | exact HB.out | apply below_alloc | apply pw_below_drewN | apply below_drew1 | refine below_set ?_ (IsS197.ge HI0.out) | refine below_set ?_ GE750.out) | exact HB.out)); rintro e w51 ⟨v752, rfl, ho0, hi, hb, hk⟩; refine ⟨_, rfl, ?_⟩; replace BK750 := Aside0.mk (KeepBut.blk hk (g' := gb750) (o := .cells #[.slice none 0 0, .int .i64 0] 65 (0, 0)) (bk BK750) NB750_0.out (by simp)); have HO753 := Aside0.mk (Kd.R_lower ho0 (keep_size (w := w) (g := g) (row := none) (kp HK))); replace HK := Aside0.mk (KeepBut.trans (kp HK) hk (.inl rfl)); replace HB := Aside0.mk (hb); replace HI0 := Aside0.mk (hi); (try clear hb); (try clear hb2); (try clear hk); (try clear hi); (try clear ho0)) | ((with_reducible refine gate_dst (N := 3) rfl ?_); refine bx (N := 3) (cs := #[.slice none 0 0, .int .i64 0]) (t := 65) ?_; intro gb757 hg w52 hbox hb; replace HO753 := rb HO753 hb; replace HB := Aside0.mk (below_step (IsS197.tb HB) hb); have BK757 := Aside0.mk (hbox); have GW757 := Aside0.mk ((by rw [hg]; exact (keep_size (w := w) (g := g) (row := none) (kp HK)) : w.heap.size ≤ gb757)); have GE757 := Aside0.mk ((Nat.le_trans HW0.out (by rw [hg]; exact (keep_size (w := w) (g := g) (row := none) (kp HK)) : w.heap.size ≤ gb757) : w0.heap.size ≤ gb757)); replace HK := Aside0.mk (KeepBut.trans (kp HK) (KeepBut.of_below hb g none) (.inl rfl)); have NB750_757 := Aside0.mk (nl_ hg BK750); have NB757_750 := Aside0.mk (ng_ hg BK750); replace BK750 := bb BK750 hb; have NB0_757 := Aside0.mk ((by rw [hg]; exact Nat.ne_of_lt (IsS197.lt (show IsS197 w0 _ g s0_0 t755 t756 from IsS197.go HI0)) : g ≠ gb757)); have NB757_0 := Aside0.mk ((by rw [hg]; exact Nat.ne_of_gt (IsS197.lt (show IsS197 w0 _ g s0_0 t755 t756 from IsS197.go HI0)) : gb757 ≠ g)); replace HI0 := Aside0.mk (IsS197.below (IsS197.go HI0) hb); clear hb hbox hg; obtain ⟨Ao53, co53, eo53⟩ := Kd.R_slice HO753.out; subst eo53; have hnb54 := NB757_750.out; have hnc54 := NB750_757.out; have hnb55 := NB757_0.out; have hnc55 := NB0_757.out; obtain ⟨hcz56_0, hcz56_1, hfz56_0, hfz56_1⟩ := c2 BK757) | ((with_reducible refine gate_callee (f := 159) rfl ?_); refine gL 7 Try.func159 #[.pointer (some ⟨g, 0, none⟩), .int .i64 8] ?_; (with_reducible refine (spec_l1Below.calls g s0_0 t755 t756 8 t758 t759 t760 w0 _ ?side1 ?side2 A3.out).mono ?_); (case side1 => repeat (first | (with_reducible first | exact HI0.out | apply IsS197.alloc | apply IsS197.drewN | apply IsS197.drew | apply IsS197.set_1 | apply IsS197.set_2 | refine IsS197.far ?_ NB0_750.out _ | refine IsS197.far ?_ NB0_757.out _) | exact HI0.out)); (case side2 => repeat (first | (with_reducible first | exact HB.out | apply below_alloc | apply pw_below_drewN | apply below_drew1 | refine below_set ?_ (IsS197.ge HI0.out) | refine below_set ?_ GE750.out | refine below_set ?_ GE757.out) | exact HB.out)); rintro e w57 ⟨rfl, hi, hb, hk⟩; refine ⟨_, rfl, ?_⟩; replace BK750 := Aside0.mk (KeepBut.blk hk (g' := gb750) (o := .cells #[.slice none 0 0, .int .i64 0] 65 (0, 0)) (bf BK750) NB750_0.out (by simp)); replace HO753 := Aside0.mk (Kd.R_mono (Kd.R_keep (IsS197.apart (show IsS197 w0 _ g s0_0 t755 t756 from IsS197.go HI0) (kr ((Kd.R_mono (Kd.R_far (p := ⟨gb757, 1, none⟩) (Kd.R_far (p := ⟨gb757, 0, none⟩) (Kd.R_types HO753.out BK757.out (by decide)) (fun _ hk => hk.2) (.slice Ao53 t751.length co53)) (fun _ hk => hk.2) (.int .i64 t754)) (fun _ h_ => h_.1)))) (by decide)) hk (fun _ h => h.2)) (fun _ h => h.1)); replace BK757 := Aside0.mk (KeepBut.blk hk (g' := gb757) (o := .cells #[.slice Ao53 t751.length co53, .int .i64 t754] 65 (0, 0)) (by (with_reducible repeat (first | refine blk_drewN ?_ _ | refine blk_drew ?_ | refine blk_alloc ?_ _)); refine blk_put (cs := #[.slice Ao53 t751.length co53, .int .i64 0]) ?_ 1 _ rfl; (with_reducible repeat (first | refine blk_drewN ?_ _ | refine blk_drew ?_ | refine blk_alloc ?_ _)); refine blk_put (cs := #[.slice none 0 0, .int .i64 0]) ?_ 0 _ rfl; (with_reducible repeat (first | refine blk_drewN ?_ _ | refine blk_drew ?_ | refine blk_alloc ?_ _)); exact BK757.out) NB757_0.out (by simp)); replace HK := Aside0.mk (KeepBut.trans (kp HK) hk (.inl rfl)); replace HB := Aside0.mk (hb); replace HI0 := Aside0.mk (hi); (try clear hb); (try clear hb2); (try clear hk); (try clear hi)) | ((with_reducible refine gate_dst (N := 27) rfl ?_); refine Kd.R_lit (Kd.int .i64) _ 3 ?hg (N := 27) ?hd (xs := ([(-1), 5, 6] : List Int)) (inner := [.int .i64 (-1), .int .i64 5, .int .i64 6]) (ok := fun _ => True) (okp := fun _ => True) ?hr ?hp (fun _ hk => hk) trivial (Below.refl _ _) (Nat.le_refl _) (by simp) ?_; (case hd => rfl); (case hg => rfl); (case hr => first | (go_simp; done) | (go_simp; rfl)); (case hp => exact (Reps.one (show Kd.M (Kd.int .i64) _ _ _ (-1) [.int .i64 (-1)] from rfl) (Reps.one (show Kd.M (Kd.int .i64) _ _ _ 5 [.int .i64 5] from rfl) (Reps.one (show Kd.M (Kd.int .i64) _ _ _ 6 [.int .i64 6] from rfl) (Reps.none _ _))))); intro v771 w58 ho59 hb hg_ hnew_; clear hg_ hnew_; (first | rw [← Ny770.out] at ho59 | (simp only [Int.reduceToNat] at ho59; rw [← Ny770.out] at ho59)); have HO772 := Aside0.mk (Kd.R_lower (Kd.R_new' ho59 (Kd.R_lt (kr HO753.out))) (keep_size (w := w) (g := g) (row := none) (kp HK))); replace HO753 := Aside0.mk (Kd.R_elder' (kr HO753.out) (Kd.R_base ho59) hb); replace HI0 := Aside0.mk (IsS197.below (IsS197.go HI0) hb); replace BK750 := bb BK750 hb; replace BK757 := bb BK757 hb; replace HK := Aside0.mk (KeepBut.trans (kp HK) (KeepBut.of_below hb g none) (.inl rfl)); replace HB := Aside0.mk (below_step (IsS197.tb HB) hb); clear hb ho59; obtain ⟨Ao60, co60, eo60⟩ := Kd.R_slice HO772.out; subst eo60) | ((with_reducible refine gate_callee (f := 160) rfl ?_); refine gL 28 Try.func160 #[.pointer (some ⟨g, 0, none⟩), .slice Ao60 y770.length co60] ?_; (with_reducible refine (spec_l1PickInt.calls g s0_0 t759 t760 _ _ y770 t773 t774 t775 w0 _ ?side1 ?side2 ?side3 ?side4 ?side5 A49.out).mono ?_); (case side1 => repeat (first | (with_reducible first | exact HI0.out | apply IsS197.alloc | apply IsS197.drewN | apply IsS197.drew | apply IsS197.set_1 | apply IsS197.set_2 | refine IsS197.far ?_ NB0_750.out _ | refine IsS197.far ?_ NB0_757.out _) | exact HI0.out)); (case side2 => repeat (first | (with_reducible first | exact HB.out | apply below_alloc | apply pw_below_drewN | apply below_drew1 | refine below_set ?_ (IsS197.ge HI0.out) | refine below_set ?_ GE750.out | refine below_set ?_ GE757.out) | exact HB.out)); (case side3 => repeat (first | exact (Kd.R_reads' HO772.out).2.2 | (with_reducible refine Kd.C_alloc ?_ _) | (with_reducible refine Kd.C_drewN ?_ _) | (with_reducible refine Kd.C_drew ?_))); (case side4 => exact (Kd.R_reads' HO772.out).2.1); (case side5 => exact far_slice (IsS197.own_ne HI0.out HO772.out (by decide))); rintro e w61 ⟨rfl, hi, hb, hk⟩; refine ⟨_, rfl, ?_⟩; replace BK750 := Aside0.mk (KeepBut.blk hk (g' := gb750) (o := .cells #[.slice none 0 0, .int .i64 0] 65 (0, 0)) (bk BK750) NB750_0.out (by simp)); replace HO753 := Aside0.mk (Kd.R_mono (Kd.R_keep (IsS197.apart (show IsS197 w0 _ g s0_0 t759 t760 from IsS197.go HI0) (kr HO753.out) (by decide)) hk (fun _ h => h.2)) (fun _ h => h.1)); replace BK757 := Aside0.mk (KeepBut.blk hk (g' := gb757) (o := .cells #[.slice Ao53 t751.length co53, .int .i64 t754] 65 (0, 0)) (bk BK757) NB757_0.out (by simp)); replace HO772 := Aside0.mk (Kd.R_mono (Kd.R_keep (IsS197.apart (show IsS197 w0 _ g s0_0 t759 t760 from IsS197.go HI0) (kr HO772.out) (by decide)) hk (fun _ h => h.2)) (fun _ h => h.1)); replace HK := Aside0.mk (KeepBut.trans (kp HK) hk (.inl rfl)); replace HB := Aside0.mk (hb); replace HI0 := Aside0.mk (hi); (try clear hb); (try clear hb2); (try clear hk); (try clear hi); obtain ⟨hcz62_0, hcz62_1, hfz62_0, hfz62_1⟩ := c2 BK757; have hnb63 := NB750_0.out; have hnc63 := NB0_750.out; obtain ⟨hcz64_0, hcz64_1, hfz64_0, hfz64_1⟩ := c2 BK750))
    refine bodyPost_ret (results_cell_row rfl _ _ gb750 65 #[.slice Ao53 t751.length co53, .int .i64 t773] (0, 0) _ rfl (by (with_reducible repeat (first | refine blk_drewN ?_ _ | refine blk_drew ?_ | refine blk_alloc ?_ _)); refine blk_put (cs := #[.slice Ao53 t751.length co53, .int .i64 0]) ?_ 1 _ rfl; (with_reducible repeat (first | refine blk_drewN ?_ _ | refine blk_drew ?_ | refine blk_alloc ?_ _)); refine blk_put (cs := #[.slice none 0 0, .int .i64 0]) ?_ 0 _ rfl; (with_reducible repeat (first | refine blk_drewN ?_ _ | refine blk_drew ?_ | refine blk_alloc ?_ _)); refine blk_far ?_ NB750_757.out _; (with_reducible repeat (first | refine blk_drewN ?_ _ | refine blk_drew ?_ | refine blk_alloc ?_ _)); exact BK750.out) Try.underlying65 rfl (by kernel_rfl)) rfl ?_
    exact ⟨_, er, by (with_reducible repeat (first | apply Kd.R_alloc | apply Kd.R_drewN | apply Kd.R_drew)); exact Kd.R_mono (Kd.R_far (p := ⟨gb750, 1, none⟩) (Kd.R_far (p := ⟨gb750, 0, none⟩) (Kd.R_far (p := ⟨gb757, 1, none⟩) (Kd.R_types (Kd.R_types HO753.out BK757.out (by decide)) BK750.out (by decide)) (fun _ hk => hk.1.2) (.int .i64 t773)) (fun _ hk => hk.2) (.slice Ao53 t751.length co53)) (fun _ hk => hk.2) (.int .i64 t773)) (fun _ hk => trivial), IsS197.go HI0, IsS197.tb HB, kp HK⟩
   ·rw [if_neg c48] at H
    have c48b0 : (t758 == 2) = false := beq_eq_false_iff_ne.mpr c48
    have c48b1 : (t758 != 2) = true := bne_iff_ne.mpr c48
    by_cases c65 : t758 = 3
    ·rw [if_pos c65] at H
     have c65b0 : (t758 == 3) = true := beq_iff_eq.mpr c65
     have c65b1 : (t758 != 3) = false := bne_eq_false_iff_eq.mpr c65
     clear c65
     by_cases c66 : 2 ≤ (t751.length : Int)
     ·rw [if_pos c66] at H
      have c66b0 := eq_true c66
      have c66b1 := decide_eq_true c66
      clear c66
      obtain ⟨y776, hy776⟩ : ∃ y_ : List Int, y_ = (t751.take (2 : Int).toNat) := ⟨_, rfl⟩
      replace H : (some (y776, t754, t759, t760)) = some (r1, r2, r3, r4) := by first | (rw [hy776]; with_reducible exact H) | (have H2_ := (Option.bind_some _ _).symm.trans H; rw [hy776]; with_reducible exact H2_) | (have H2_ := (Option.bind_some _ _).symm.trans H; with_reducible exact H2_) | with_reducible exact H | (rw [hy776]; exact H) | exact H
      have Ny776 := Aside0.mk hy776
      clear hy776
      simp only [Option.some.injEq, Prod.mk.injEq] at H
      obtain ⟨rfl, rfl, rfl, rfl⟩ := H
      go_enter Try.func106, Try.ntmps106
      go_wp2_with (first | ((with_reducible refine gate_dst (N := 2) rfl ?_); refine bx (N := 2) (cs := #[.slice none 0 0, .int .i64 0]) (t := 65) ?_; intro gb750 hg w67 hbox hb; replace HB := Aside0.mk (below_step (IsS197.tb HB) hb); have BK750 := Aside0.mk (hbox); have GW750 := Aside0.mk ((by rw [hg]; exact (keep_size (w := w) (g := g) (row := none) (kp HK)) : w.heap.size ≤ gb750)); have GE750 := Aside0.mk ((Nat.le_trans HW0.out (by rw [hg]; exact (keep_size (w := w) (g := g) (row := none) (kp HK)) : w.heap.size ≤ gb750) : w0.heap.size ≤ gb750)); replace HK := Aside0.mk (KeepBut.trans (kp HK) (KeepBut.of_below hb g none) (.inl rfl)); have NB0_750 := Aside0.mk ((by rw [hg]; exact Nat.ne_of_lt (IsS197.lt (show IsS197 w0 _ g s0_0 s0_1 s0_2 from IsS197.go HI0)) : g ≠ gb750)); have NB750_0 := Aside0.mk ((by rw [hg]; exact Nat.ne_of_gt (IsS197.lt (show IsS197 w0 _ g s0_0 s0_1 s0_2 from IsS197.go HI0)) : gb750 ≠ g)); replace HI0 := Aside0.mk (IsS197.below (IsS197.go HI0) hb); clear hb hbox hg) | ((with_reducible refine gate_callee (f := 112) rfl ?_); refine gL 5 Try.func112 #[.pointer (some ⟨g, 0, none⟩)] ?_; (with_reducible refine (spec_l3DrawRight.calls k g s0_0 s0_1 s0_2 t751 t754 t755 t756 w0 _ ?side1 ?side2 A2.out).mono ?_); (case side1 => repeat (first | (with_reducible first | exact HI0.out | apply IsS197.alloc | apply IsS197.drewN | apply IsS197.drew | apply IsS197.set_1 | apply IsS197.set_2 | refine IsS197.far ?_ NB0_750.out _) | exact HI0.out)); (case side2 => repeat (first | (with_reducible first | exact HB.out | apply below_alloc | apply pw_below_drewN | apply below_drew1 | refine below_set ?_ (IsS197.ge HI0.out) | refine below_set ?_ GE750.out) | exact HB.out)); rintro e w68 ⟨v752, rfl, ho0, hi, hb, hk⟩; refine ⟨_, rfl, ?_⟩; replace BK750 := Aside0.mk (KeepBut.blk hk (g' := gb750) (o := .cells #[.slice none 0 0, .int .i64 0] 65 (0, 0)) (bk BK750) NB750_0.out (by simp)); have HO753 := Aside0.mk (Kd.R_lower ho0 (keep_size (w := w) (g := g) (row := none) (kp HK))); replace HK := Aside0.mk (KeepBut.trans (kp HK) hk (.inl rfl)); replace HB := Aside0.mk (hb); replace HI0 := Aside0.mk (hi); (try clear hb); (try clear hb2); (try clear hk); (try clear hi); (try clear ho0)) | ((with_reducible refine gate_dst (N := 3) rfl ?_); refine bx (N := 3) (cs := #[.slice none 0 0, .int .i64 0]) (t := 65) ?_; intro gb757 hg w69 hbox hb; replace HO753 := rb HO753 hb; replace HB := Aside0.mk (below_step (IsS197.tb HB) hb); have BK757 := Aside0.mk (hbox); have GW757 := Aside0.mk ((by rw [hg]; exact (keep_size (w := w) (g := g) (row := none) (kp HK)) : w.heap.size ≤ gb757)); have GE757 := Aside0.mk ((Nat.le_trans HW0.out (by rw [hg]; exact (keep_size (w := w) (g := g) (row := none) (kp HK)) : w.heap.size ≤ gb757) : w0.heap.size ≤ gb757)); replace HK := Aside0.mk (KeepBut.trans (kp HK) (KeepBut.of_below hb g none) (.inl rfl)); have NB750_757 := Aside0.mk (nl_ hg BK750); have NB757_750 := Aside0.mk (ng_ hg BK750); replace BK750 := bb BK750 hb; have NB0_757 := Aside0.mk ((by rw [hg]; exact Nat.ne_of_lt (IsS197.lt (show IsS197 w0 _ g s0_0 t755 t756 from IsS197.go HI0)) : g ≠ gb757)); have NB757_0 := Aside0.mk ((by rw [hg]; exact Nat.ne_of_gt (IsS197.lt (show IsS197 w0 _ g s0_0 t755 t756 from IsS197.go HI0)) : gb757 ≠ g)); replace HI0 := Aside0.mk (IsS197.below (IsS197.go HI0) hb); clear hb hbox hg; obtain ⟨Ao70, co70, eo70⟩ := Kd.R_slice HO753.out; subst eo70; have hnb71 := NB757_750.out; have hnc71 := NB750_757.out; have hnb72 := NB757_0.out; have hnc72 := NB0_757.out; obtain ⟨hcz73_0, hcz73_1, hfz73_0, hfz73_1⟩ := c2 BK757) | ((with_reducible refine gate_callee (f := 159) rfl ?_); refine gL 7 Try.func159 #[.pointer (some ⟨g, 0, none⟩), .int .i64 8] ?_; (with_reducible refine (spec_l1Below.calls g s0_0 t755 t756 8 t758 t759 t760 w0 _ ?side1 ?side2 A3.out).mono ?_); (case side1 => repeat (first | (with_reducible first | exact HI0.out | apply IsS197.alloc | apply IsS197.drewN | apply IsS197.drew | apply IsS197.set_1 | apply IsS197.set_2 | refine IsS197.far ?_ NB0_750.out _ | refine IsS197.far ?_ NB0_757.out _) | exact HI0.out)); (case side2 => repeat (first | (with_reducible first | exact HB.out | apply below_alloc | apply pw_below_drewN | apply below_drew1 | refine below_set ?_ (IsS197.ge HI0.out) | refine below_set ?_ GE750.out | refine below_set ?_ GE757.out) | exact HB.out)); rintro e w74 ⟨rfl, hi, hb, hk⟩; refine ⟨_, rfl, ?_⟩; replace BK750 := Aside0.mk (KeepBut.blk hk (g' := gb750) (o := .cells #[.slice none 0 0, .int .i64 0] 65 (0, 0)) (bf BK750) NB750_0.out (by simp)); replace HO753 := Aside0.mk (Kd.R_mono (Kd.R_keep (IsS197.apart (show IsS197 w0 _ g s0_0 t755 t756 from IsS197.go HI0) (kr ((Kd.R_mono (Kd.R_far (p := ⟨gb757, 1, none⟩) (Kd.R_far (p := ⟨gb757, 0, none⟩) (Kd.R_types HO753.out BK757.out (by decide)) (fun _ hk => hk.2) (.slice Ao70 t751.length co70)) (fun _ hk => hk.2) (.int .i64 t754)) (fun _ h_ => h_.1)))) (by decide)) hk (fun _ h => h.2)) (fun _ h => h.1)); replace BK757 := Aside0.mk (KeepBut.blk hk (g' := gb757) (o := .cells #[.slice Ao70 t751.length co70, .int .i64 t754] 65 (0, 0)) (by (with_reducible repeat (first | refine blk_drewN ?_ _ | refine blk_drew ?_ | refine blk_alloc ?_ _)); refine blk_put (cs := #[.slice Ao70 t751.length co70, .int .i64 0]) ?_ 1 _ rfl; (with_reducible repeat (first | refine blk_drewN ?_ _ | refine blk_drew ?_ | refine blk_alloc ?_ _)); refine blk_put (cs := #[.slice none 0 0, .int .i64 0]) ?_ 0 _ rfl; (with_reducible repeat (first | refine blk_drewN ?_ _ | refine blk_drew ?_ | refine blk_alloc ?_ _)); exact BK757.out) NB757_0.out (by simp)); replace HK := Aside0.mk (KeepBut.trans (kp HK) hk (.inl rfl)); replace HB := Aside0.mk (hb); replace HI0 := Aside0.mk (hi); (try clear hb); (try clear hb2); (try clear hk); (try clear hi); obtain ⟨hcz75_0, hcz75_1, hfz75_0, hfz75_1⟩ := c2 BK757; have q76 : (2 : Int) ≤ ((t751.length : Int) : Int) := od; obtain ⟨i076, hi076, _, hsz76, _⟩ := info_parts info3; have hcut76 := cut_to (P := Try.prog) 22 3 .i64 Try.underlying22 hi076 Ao70 t751.length co70 2 (by omega) q76 (Kd.R_reads' HO753.out).2.1; have hr76 := Kd.R_take (m := (2 : Int).toNat) HO753.out (by omega); have hy76 : y776.length = (2 : Int).toNat := (by rw [Ny776.out, List.length_take]; omega); rw [← Ny776.out] at hr76; rw [← hy76] at hr76 hcut76; clear hy76 hi076 hsz76 HO753; have HO778 := Aside0.mk hr76; clear hr76; replace q76 := eq_true q76; have hnb77 := NB750_0.out; have hnc77 := NB0_750.out; obtain ⟨hcz78_0, hcz78_1, hfz78_0, hfz78_1⟩ := c2 BK750))
      refine bodyPost_ret (results_cell_row rfl _ _ gb750 65 #[.slice Ao70 y776.length co70, .int .i64 t754] (0, 0) _ rfl (by (with_reducible repeat (first | refine blk_drewN ?_ _ | refine blk_drew ?_ | refine blk_alloc ?_ _)); refine blk_put (cs := #[.slice Ao70 y776.length co70, .int .i64 0]) ?_ 1 _ rfl; (with_reducible repeat (first | refine blk_drewN ?_ _ | refine blk_drew ?_ | refine blk_alloc ?_ _)); refine blk_put (cs := #[.slice none 0 0, .int .i64 0]) ?_ 0 _ rfl; (with_reducible repeat (first | refine blk_drewN ?_ _ | refine blk_drew ?_ | refine blk_alloc ?_ _)); refine blk_far ?_ NB750_757.out _; (with_reducible repeat (first | refine blk_drewN ?_ _ | refine blk_drew ?_ | refine blk_alloc ?_ _)); exact BK750.out) Try.underlying65 rfl (by kernel_rfl)) rfl ?_
      exact ⟨_, er, by (with_reducible repeat (first | apply Kd.R_alloc | apply Kd.R_drewN | apply Kd.R_drew)); exact Kd.R_mono (Kd.R_far (p := ⟨gb750, 1, none⟩) (Kd.R_far (p := ⟨gb750, 0, none⟩) (Kd.R_far (p := ⟨gb757, 0, none⟩) (Kd.R_types (Kd.R_types HO778.out BK757.out (by decide)) BK750.out (by decide)) (fun _ hk => hk.1.2) (.slice Ao70 y776.length co70)) (fun _ hk => hk.2) (.slice Ao70 y776.length co70)) (fun _ hk => hk.2) (.int .i64 t754)) (fun _ hk => trivial), IsS197.go HI0, IsS197.tb HB, kp HK⟩
     ·rw [if_neg c66] at H
      exact absurd H (by simp)
    ·rw [if_neg c65] at H
     have c65b0 : (t758 == 3) = false := beq_eq_false_iff_ne.mpr c65
     have c65b1 : (t758 != 3) = true := bne_iff_ne.mpr c65
     simp only [Option.some.injEq, Prod.mk.injEq] at H
     obtain ⟨rfl, rfl, rfl, rfl⟩ := H
     go_enter Try.func106, Try.ntmps106
     go_wp2_with (first | ((with_reducible refine gate_dst (N := 2) rfl ?_); refine bx (N := 2) (cs := #[.slice none 0 0, .int .i64 0]) (t := 65) ?_; intro gb750 hg w79 hbox hb; replace HB := Aside0.mk (below_step (IsS197.tb HB) hb); have BK750 := Aside0.mk (hbox); have GW750 := Aside0.mk ((by rw [hg]; exact (keep_size (w := w) (g := g) (row := none) (kp HK)) : w.heap.size ≤ gb750)); have GE750 := Aside0.mk ((Nat.le_trans HW0.out (by rw [hg]; exact (keep_size (w := w) (g := g) (row := none) (kp HK)) : w.heap.size ≤ gb750) : w0.heap.size ≤ gb750)); replace HK := Aside0.mk (KeepBut.trans (kp HK) (KeepBut.of_below hb g none) (.inl rfl)); have NB0_750 := Aside0.mk ((by rw [hg]; exact Nat.ne_of_lt (IsS197.lt (show IsS197 w0 _ g s0_0 s0_1 s0_2 from IsS197.go HI0)) : g ≠ gb750)); have NB750_0 := Aside0.mk ((by rw [hg]; exact Nat.ne_of_gt (IsS197.lt (show IsS197 w0 _ g s0_0 s0_1 s0_2 from IsS197.go HI0)) : gb750 ≠ g)); replace HI0 := Aside0.mk (IsS197.below (IsS197.go HI0) hb); clear hb hbox hg) | ((with_reducible refine gate_callee (f := 112) rfl ?_); refine gL 5 Try.func112 #[.pointer (some ⟨g, 0, none⟩)] ?_; (with_reducible refine (spec_l3DrawRight.calls k g s0_0 s0_1 s0_2 t751 t754 t755 t756 w0 _ ?side1 ?side2 A2.out).mono ?_); (case side1 => repeat (first | (with_reducible first | exact HI0.out | apply IsS197.alloc | apply IsS197.drewN | apply IsS197.drew | apply IsS197.set_1 | apply IsS197.set_2 | refine IsS197.far ?_ NB0_750.out _) | exact HI0.out)); (case side2 => repeat (first | (with_reducible first | exact HB.out | apply below_alloc | apply pw_below_drewN | apply below_drew1 | refine below_set ?_ (IsS197.ge HI0.out) | refine below_set ?_ GE750.out) | exact HB.out)); rintro e w80 ⟨v752, rfl, ho0, hi, hb, hk⟩; refine ⟨_, rfl, ?_⟩; replace BK750 := Aside0.mk (KeepBut.blk hk (g' := gb750) (o := .cells #[.slice none 0 0, .int .i64 0] 65 (0, 0)) (bk BK750) NB750_0.out (by simp)); have HO753 := Aside0.mk (Kd.R_lower ho0 (keep_size (w := w) (g := g) (row := none) (kp HK))); replace HK := Aside0.mk (KeepBut.trans (kp HK) hk (.inl rfl)); replace HB := Aside0.mk (hb); replace HI0 := Aside0.mk (hi); (try clear hb); (try clear hb2); (try clear hk); (try clear hi); (try clear ho0)) | ((with_reducible refine gate_dst (N := 3) rfl ?_); refine bx (N := 3) (cs := #[.slice none 0 0, .int .i64 0]) (t := 65) ?_; intro gb757 hg w81 hbox hb; replace HO753 := rb HO753 hb; replace HB := Aside0.mk (below_step (IsS197.tb HB) hb); have BK757 := Aside0.mk (hbox); have GW757 := Aside0.mk ((by rw [hg]; exact (keep_size (w := w) (g := g) (row := none) (kp HK)) : w.heap.size ≤ gb757)); have GE757 := Aside0.mk ((Nat.le_trans HW0.out (by rw [hg]; exact (keep_size (w := w) (g := g) (row := none) (kp HK)) : w.heap.size ≤ gb757) : w0.heap.size ≤ gb757)); replace HK := Aside0.mk (KeepBut.trans (kp HK) (KeepBut.of_below hb g none) (.inl rfl)); have NB750_757 := Aside0.mk (nl_ hg BK750); have NB757_750 := Aside0.mk (ng_ hg BK750); replace BK750 := bb BK750 hb; have NB0_757 := Aside0.mk ((by rw [hg]; exact Nat.ne_of_lt (IsS197.lt (show IsS197 w0 _ g s0_0 t755 t756 from IsS197.go HI0)) : g ≠ gb757)); have NB757_0 := Aside0.mk ((by rw [hg]; exact Nat.ne_of_gt (IsS197.lt (show IsS197 w0 _ g s0_0 t755 t756 from IsS197.go HI0)) : gb757 ≠ g)); replace HI0 := Aside0.mk (IsS197.below (IsS197.go HI0) hb); clear hb hbox hg; obtain ⟨Ao82, co82, eo82⟩ := Kd.R_slice HO753.out; subst eo82; have hnb83 := NB757_750.out; have hnc83 := NB750_757.out; have hnb84 := NB757_0.out; have hnc84 := NB0_757.out; obtain ⟨hcz85_0, hcz85_1, hfz85_0, hfz85_1⟩ := c2 BK757) | ((with_reducible refine gate_callee (f := 159) rfl ?_); refine gL 7 Try.func159 #[.pointer (some ⟨g, 0, none⟩), .int .i64 8] ?_; (with_reducible refine (spec_l1Below.calls g s0_0 t755 t756 8 t758 t759 t760 w0 _ ?side1 ?side2 A3.out).mono ?_); (case side1 => repeat (first | (with_reducible first | exact HI0.out | apply IsS197.alloc | apply IsS197.drewN | apply IsS197.drew | apply IsS197.set_1 | apply IsS197.set_2 | refine IsS197.far ?_ NB0_750.out _ | refine IsS197.far ?_ NB0_757.out _) | exact HI0.out)); (case side2 => repeat (first | (with_reducible first | exact HB.out | apply below_alloc | apply pw_below_drewN | apply below_drew1 | refine below_set ?_ (IsS197.ge HI0.out) | refine below_set ?_ GE750.out | refine below_set ?_ GE757.out) | exact HB.out)); rintro e w86 ⟨rfl, hi, hb, hk⟩; refine ⟨_, rfl, ?_⟩; replace BK750 := Aside0.mk (KeepBut.blk hk (g' := gb750) (o := .cells #[.slice none 0 0, .int .i64 0] 65 (0, 0)) (bf BK750) NB750_0.out (by simp)); replace HO753 := Aside0.mk (Kd.R_mono (Kd.R_keep (IsS197.apart (show IsS197 w0 _ g s0_0 t755 t756 from IsS197.go HI0) (kr ((Kd.R_mono (Kd.R_far (p := ⟨gb757, 1, none⟩) (Kd.R_far (p := ⟨gb757, 0, none⟩) (Kd.R_types HO753.out BK757.out (by decide)) (fun _ hk => hk.2) (.slice Ao82 t751.length co82)) (fun _ hk => hk.2) (.int .i64 t754)) (fun _ h_ => h_.1)))) (by decide)) hk (fun _ h => h.2)) (fun _ h => h.1)); replace BK757 := Aside0.mk (KeepBut.blk hk (g' := gb757) (o := .cells #[.slice Ao82 t751.length co82, .int .i64 t754] 65 (0, 0)) (by (with_reducible repeat (first | refine blk_drewN ?_ _ | refine blk_drew ?_ | refine blk_alloc ?_ _)); refine blk_put (cs := #[.slice Ao82 t751.length co82, .int .i64 0]) ?_ 1 _ rfl; (with_reducible repeat (first | refine blk_drewN ?_ _ | refine blk_drew ?_ | refine blk_alloc ?_ _)); refine blk_put (cs := #[.slice none 0 0, .int .i64 0]) ?_ 0 _ rfl; (with_reducible repeat (first | refine blk_drewN ?_ _ | refine blk_drew ?_ | refine blk_alloc ?_ _)); exact BK757.out) NB757_0.out (by simp)); replace HK := Aside0.mk (KeepBut.trans (kp HK) hk (.inl rfl)); replace HB := Aside0.mk (hb); replace HI0 := Aside0.mk (hi); (try clear hb); (try clear hb2); (try clear hk); (try clear hi); obtain ⟨hcz87_0, hcz87_1, hfz87_0, hfz87_1⟩ := c2 BK757; have hnb88 := NB750_0.out; have hnc88 := NB0_750.out; obtain ⟨hcz89_0, hcz89_1, hfz89_0, hfz89_1⟩ := c2 BK750))
     refine bodyPost_ret (results_cell_row rfl _ _ gb750 65 #[.slice Ao82 t751.length co82, .int .i64 t754] (0, 0) _ rfl (by (with_reducible repeat (first | refine blk_drewN ?_ _ | refine blk_drew ?_ | refine blk_alloc ?_ _)); refine blk_put (cs := #[.slice Ao82 t751.length co82, .int .i64 0]) ?_ 1 _ rfl; (with_reducible repeat (first | refine blk_drewN ?_ _ | refine blk_drew ?_ | refine blk_alloc ?_ _)); refine blk_put (cs := #[.slice none 0 0, .int .i64 0]) ?_ 0 _ rfl; (with_reducible repeat (first | refine blk_drewN ?_ _ | refine blk_drew ?_ | refine blk_alloc ?_ _)); exact BK750.out) Try.underlying65 rfl (by kernel_rfl)) rfl ?_
     exact ⟨_, er, by (with_reducible repeat (first | apply Kd.R_alloc | apply Kd.R_drewN | apply Kd.R_drew)); exact Kd.R_mono (Kd.R_far (p := ⟨gb750, 1, none⟩) (Kd.R_far (p := ⟨gb750, 0, none⟩) (Kd.R_types HO753.out BK750.out (by decide)) (fun _ hk => hk.2) (.slice Ao82 t751.length co82)) (fun _ hk => hk.2) (.int .i64 t754)) (fun _ hk => trivial), IsS197.go HI0, IsS197.tb HB, kp HK⟩
mutual
def spec_l4DrawRight.j0 : Nat → List Int → Int → Int → Int → Int → Int → Option (Int × Int × Int × Int × Int)
 | 0, _, _, _, _, _, _ => none
 | k + 1, x1000, x1001, x1002, x787000, x787001, x787002 => if x787000 = 6 then ((spec_l1Below.f x1000 x1001 x1002 3).bind fun bt791 => (spec_l4DrawRight.j1 k x1000 bt791.2.1 bt791.2.2 x787000 bt791.1 x787002)) else (spec_l4DrawRight.j1 k x1000 x1001 x1002 x787000 x787001 x787002)
def spec_l4DrawRight.j1 : Nat → List Int → Int → Int → Int → Int → Int → Option (Int × Int × Int × Int × Int)
 | 0, _, _, _, _, _, _ => none
 | k + 1, x1000, x1001, x1002, x787000, x787001, x787002 => (spec_l4Val.f x787000).bind fun t794 => (if t794 = true then ((spec_l1Below.f x1000 x1001 x1002 4).bind fun bt795 => (some (x787000, x787001, wrap64 (1 + bt795.1), bt795.2.1, bt795.2.2))) else (some (x787000, x787001, x787002, x1001, x1002)))
end
def spec_l4DrawRight.f (k : Nat) (s0_0 : List Int) (s0_1 : Int) (s0_2 : Int) : Option (Int × Int × Int × Int × Int) := (spec_l1PickInt.f s0_0 s0_1 s0_2 (([1, 1, 1, 2, 2, 3, 4, 5, 6, 7, 8, 9, 9, 10] : List Int))).bind fun bt783 => ((spec_l4Key.f bt783.1).bind fun t787 => (if t787 = true then ((spec_l1Below.f s0_0 bt783.2.1 bt783.2.2 4).bind fun bt788 => (spec_l4DrawRight.j0 k s0_0 bt788.2.1 bt788.2.2 bt783.1 bt788.1 0)) else (spec_l4DrawRight.j0 k s0_0 bt783.2.1 bt783.2.2 bt783.1 0 0)))
theorem spec_l4DrawRight.mono_l : ∀ k, (∀ y0 y1 y2 y3 y4 y5, LeO (spec_l4DrawRight.j0 k y0 y1 y2 y3 y4 y5) (spec_l4DrawRight.j0 (k + 1) y0 y1 y2 y3 y4 y5)) ∧ (∀ y0 y1 y2 y3 y4 y5, LeO (spec_l4DrawRight.j1 k y0 y1 y2 y3 y4 y5) (spec_l4DrawRight.j1 (k + 1) y0 y1 y2 y3 y4 y5))
 | 0 => ⟨fun _ _ _ _ _ _ r h => by simp [spec_l4DrawRight.j0] at h, fun _ _ _ _ _ _ r h => by simp [spec_l4DrawRight.j1] at h⟩
 | k + 1 => by
  obtain ⟨ih0, ih1⟩ := spec_l4DrawRight.mono_l k
  refine ⟨?_, ?_⟩
  ·intro y0 y1 y2 y3 y4 y5
   unfold spec_l4DrawRight.j0
   repeat' first
   | (with_reducible exact ih0 _ _ _ _ _ _)
   | (with_reducible exact ih1 _ _ _ _ _ _)
   | (with_reducible exact LeO.refl _)
   | (with_reducible exact LeO.none _)
   | (with_reducible refine LeO.ite ?_ ?_)
   | (with_reducible refine LeO.bind ?_ (fun _ => ?_))
   | exact ih0 _ _ _ _ _ _
   | exact ih1 _ _ _ _ _ _
   | exact LeO.none _
   | refine LeO.ite ?_ ?_
   | refine LeO.bind ?_ (fun _ => ?_)
  ·intro y0 y1 y2 y3 y4 y5
   unfold spec_l4DrawRight.j1
   repeat' first
   | (with_reducible exact ih0 _ _ _ _ _ _)
   | (with_reducible exact ih1 _ _ _ _ _ _)
   | (with_reducible exact LeO.refl _)
   | (with_reducible exact LeO.none _)
   | (with_reducible refine LeO.ite ?_ ?_)
   | (with_reducible refine LeO.bind ?_ (fun _ => ?_))
   | exact ih0 _ _ _ _ _ _
   | exact ih1 _ _ _ _ _ _
   | exact LeO.none _
   | refine LeO.ite ?_ ?_
   | refine LeO.bind ?_ (fun _ => ?_)
theorem spec_l4DrawRight.mono : ∀ a0 a1 a2 k, LeO (spec_l4DrawRight.f k a0 a1 a2) (spec_l4DrawRight.f (k + 1) a0 a1 a2) := by
 intro a0 a1 a2 k
 obtain ⟨ih0, ih1⟩ := spec_l4DrawRight.mono_l k
 unfold spec_l4DrawRight.f
 repeat' first
   | (with_reducible exact ih0 _ _ _ _ _ _)
   | (with_reducible exact ih1 _ _ _ _ _ _)
   | (with_reducible exact LeO.refl _)
   | (with_reducible exact LeO.none _)
   | (with_reducible refine LeO.ite ?_ ?_)
   | (with_reducible refine LeO.bind ?_ (fun _ => ?_))
   | exact ih0 _ _ _ _ _ _
   | exact ih1 _ _ _ _ _ _
   | exact LeO.none _
   | refine LeO.ite ?_ ?_
   | refine LeO.bind ?_ (fun _ => ?_)
set_option maxHeartbeats 8000000 in
set_option maxRecDepth 100000 in
theorem spec_l4DrawRight.calls (k : Nat) (g : Nat) (s0_0 : List Int) (s0_1 : Int) (s0_2 : Int) (r1 : Int) (r2 : Int) (r3 : Int) (r4 : Int) (r5 : Int) (w0 w : World) (hI : IsS197 w0 w g s0_0 s0_1 s0_2) (hB : Below w0.heap.size w0 w) (h : spec_l4DrawRight.f k s0_0 s0_1 s0_2 = some (r1, r2, r3, r4, r5)) :
  Calls Try.prog 113 #[.pointer (some ⟨g, 0, none⟩)] w fun e w' => e = .returned (.agg #[.int .i64 r1, .int .i64 r2, .int .i64 r3]) ∧ IsS197 w0 w' g s0_0 r4 r5 ∧ Below w0.heap.size w0 w' ∧ KeepBut w w' g none := by
 have hu68 := Try.underlying68
 have HI0 := Aside0.mk hI
 have HK := Aside0.mk (KeepBut.refl w g none)
 have HL := Aside0.mk hB.size
 clear hI
 have HW0 := Aside0.mk hB.size
 have HB := Aside0.mk hB
 clear hB
 have H : ((spec_l1PickInt.f s0_0 s0_1 s0_2 (([1, 1, 1, 2, 2, 3, 4, 5, 6, 7, 8, 9, 9, 10] : List Int))).bind fun bt783 => ((spec_l4Key.f bt783.1).bind fun t787 => (if t787 = true then ((spec_l1Below.f s0_0 bt783.2.1 bt783.2.2 4).bind fun bt788 => (spec_l4DrawRight.j0 k s0_0 bt788.2.1 bt788.2.2 bt783.1 bt788.1 0)) else (spec_l4DrawRight.j0 k s0_0 bt783.2.1 bt783.2.2 bt783.1 0 0)))) = some (r1, r2, r3, r4, r5) := h
 clear h
 obtain ⟨y780, hy780⟩ : ∃ y_ : List Int, y_ = (([1, 1, 1, 2, 2, 3, 4, 5, 6, 7, 8, 9, 9, 10] : List Int)) := ⟨_, rfl⟩
 replace H : ((spec_l1PickInt.f s0_0 s0_1 s0_2 y780).bind fun bt783 => ((spec_l4Key.f bt783.1).bind fun t787 => (if t787 = true then ((spec_l1Below.f s0_0 bt783.2.1 bt783.2.2 4).bind fun bt788 => (spec_l4DrawRight.j0 k s0_0 bt788.2.1 bt788.2.2 bt783.1 bt788.1 0)) else (spec_l4DrawRight.j0 k s0_0 bt783.2.1 bt783.2.2 bt783.1 0 0)))) = some (r1, r2, r3, r4, r5) := by first | (rw [hy780]; with_reducible exact H) | (have H2_ := (Option.bind_some _ _).symm.trans H; rw [hy780]; with_reducible exact H2_) | (have H2_ := (Option.bind_some _ _).symm.trans H; with_reducible exact H2_) | with_reducible exact H | (rw [hy780]; exact H) | exact H
 have Ny780 := Aside0.mk hy780
 clear hy780
 replace H := Option.bind_eq_some_iff.mp H
 obtain ⟨⟨t783, t784, t785⟩, A20, H⟩ := H
 replace H : ((spec_l4Key.f t783).bind fun t787 => (if t787 = true then ((spec_l1Below.f s0_0 t784 t785 4).bind fun bt788 => (spec_l4DrawRight.j0 k s0_0 bt788.2.1 bt788.2.2 t783 bt788.1 0)) else (spec_l4DrawRight.j0 k s0_0 t784 t785 t783 0 0))) = some (r1, r2, r3, r4, r5) := H
 have A2 := Aside0.mk A20
 clear A20
 replace H := Option.bind_eq_some_iff.mp H
 obtain ⟨t787, A30, H⟩ := H
 replace H : (if t787 = true then ((spec_l1Below.f s0_0 t784 t785 4).bind fun bt788 => (spec_l4DrawRight.j0 k s0_0 bt788.2.1 bt788.2.2 t783 bt788.1 0)) else (spec_l4DrawRight.j0 k s0_0 t784 t785 t783 0 0)) = some (r1, r2, r3, r4, r5) := H
 have A3 := Aside0.mk A30
 clear A30
 have HC4 := Aside0.mk H
 clear H
 go_enter Try.func113, Try.ntmps113
 go_upto_if 10 with (first | ((with_reducible refine gate_dst (N := 2) rfl ?_); refine bx (N := 2) (cs := #[.int .i64 0, .int .i64 0, .int .i64 0]) (t := 68) ?_; intro gb779 hg w5 hbox hb; replace HB := Aside0.mk (below_step (IsS197.tb HB) hb); have BK779 := Aside0.mk (hbox); have GW779 := Aside0.mk ((by rw [hg]; exact (keep_size (w := w) (g := g) (row := none) (kp HK)) : w.heap.size ≤ gb779)); have GE779 := Aside0.mk ((Nat.le_trans HW0.out (by rw [hg]; exact (keep_size (w := w) (g := g) (row := none) (kp HK)) : w.heap.size ≤ gb779) : w0.heap.size ≤ gb779)); replace HK := Aside0.mk (KeepBut.trans (kp HK) (KeepBut.of_below hb g none) (.inl rfl)); have NB0_779 := Aside0.mk ((by rw [hg]; exact Nat.ne_of_lt (IsS197.lt (show IsS197 w0 _ g s0_0 s0_1 s0_2 from IsS197.go HI0)) : g ≠ gb779)); have NB779_0 := Aside0.mk ((by rw [hg]; exact Nat.ne_of_gt (IsS197.lt (show IsS197 w0 _ g s0_0 s0_1 s0_2 from IsS197.go HI0)) : gb779 ≠ g)); replace HI0 := Aside0.mk (IsS197.below (IsS197.go HI0) hb); clear hb hbox hg) | ((with_reducible refine gate_dst (N := 5) rfl ?_); refine Kd.R_lit (Kd.int .i64) _ 3 ?hg (N := 5) ?hd (xs := ([1, 1, 1, 2, 2, 3, 4, 5, 6, 7, 8, 9, 9, 10] : List Int)) (inner := [.int .i64 1, .int .i64 1, .int .i64 1, .int .i64 2, .int .i64 2, .int .i64 3, .int .i64 4, .int .i64 5, .int .i64 6, .int .i64 7, .int .i64 8, .int .i64 9, .int .i64 9, .int .i64 10]) (ok := fun _ => True) (okp := fun _ => True) ?hr ?hp (fun _ hk => hk) trivial (Below.refl _ _) (Nat.le_refl _) (by simp) ?_; (case hd => rfl); (case hg => rfl); (case hr => first | (go_simp; done) | (go_simp; rfl)); (case hp => exact (Reps.one (show Kd.M (Kd.int .i64) _ _ _ 1 [.int .i64 1] from rfl) (Reps.one (show Kd.M (Kd.int .i64) _ _ _ 1 [.int .i64 1] from rfl) (Reps.one (show Kd.M (Kd.int .i64) _ _ _ 1 [.int .i64 1] from rfl) (Reps.one (show Kd.M (Kd.int .i64) _ _ _ 2 [.int .i64 2] from rfl) (Reps.one (show Kd.M (Kd.int .i64) _ _ _ 2 [.int .i64 2] from rfl) (Reps.one (show Kd.M (Kd.int .i64) _ _ _ 3 [.int .i64 3] from rfl) (Reps.one (show Kd.M (Kd.int .i64) _ _ _ 4 [.int .i64 4] from rfl) (Reps.one (show Kd.M (Kd.int .i64) _ _ _ 5 [.int .i64 5] from rfl) (Reps.one (show Kd.M (Kd.int .i64) _ _ _ 6 [.int .i64 6] from rfl) (Reps.one (show Kd.M (Kd.int .i64) _ _ _ 7 [.int .i64 7] from rfl) (Reps.one (show Kd.M (Kd.int .i64) _ _ _ 8 [.int .i64 8] from rfl) (Reps.one (show Kd.M (Kd.int .i64) _ _ _ 9 [.int .i64 9] from rfl) (Reps.one (show Kd.M (Kd.int .i64) _ _ _ 9 [.int .i64 9] from rfl) (Reps.one (show Kd.M (Kd.int .i64) _ _ _ 10 [.int .i64 10] from rfl) (Reps.none _ _)))))))))))))))); intro v781 w6 ho7 hb hg_ hnew_; clear hg_ hnew_; (first | rw [← Ny780.out] at ho7 | (simp only [Int.reduceToNat] at ho7; rw [← Ny780.out] at ho7)); have HO782 := Aside0.mk (Kd.R_lower ho7 (keep_size (w := w) (g := g) (row := none) (kp HK))); replace HI0 := Aside0.mk (IsS197.below (IsS197.go HI0) hb); replace BK779 := bb BK779 hb; replace HK := Aside0.mk (KeepBut.trans (kp HK) (KeepBut.of_below hb g none) (.inl rfl)); replace HB := Aside0.mk (below_step (IsS197.tb HB) hb); clear hb ho7; obtain ⟨Ao8, co8, eo8⟩ := Kd.R_slice HO782.out; subst eo8) | ((with_reducible refine gate_callee (f := 160) rfl ?_); refine gL 6 Try.func160 #[.pointer (some ⟨g, 0, none⟩), .slice Ao8 y780.length co8] ?_; (with_reducible refine (spec_l1PickInt.calls g s0_0 s0_1 s0_2 _ _ y780 t783 t784 t785 w0 _ ?side1 ?side2 ?side3 ?side4 ?side5 A2.out).mono ?_); (case side1 => repeat (first | (with_reducible first | exact HI0.out | apply IsS197.alloc | apply IsS197.drewN | apply IsS197.drew | apply IsS197.set_1 | apply IsS197.set_2 | refine IsS197.far ?_ NB0_779.out _) | exact HI0.out)); (case side2 => repeat (first | (with_reducible first | exact HB.out | apply below_alloc | apply pw_below_drewN | apply below_drew1 | refine below_set ?_ (IsS197.ge HI0.out) | refine below_set ?_ GE779.out) | exact HB.out)); (case side3 => repeat (first | exact (Kd.R_reads' HO782.out).2.2 | (with_reducible refine Kd.C_alloc ?_ _) | (with_reducible refine Kd.C_drewN ?_ _) | (with_reducible refine Kd.C_drew ?_))); (case side4 => exact (Kd.R_reads' HO782.out).2.1); (case side5 => exact far_slice (IsS197.own_ne HI0.out HO782.out (by decide))); rintro e w9 ⟨rfl, hi, hb, hk⟩; refine ⟨_, rfl, ?_⟩; replace BK779 := Aside0.mk (KeepBut.blk hk (g' := gb779) (o := .cells #[.int .i64 0, .int .i64 0, .int .i64 0] 68 (0, 0)) (bk BK779) NB779_0.out (by simp)); replace HO782 := Aside0.mk (Kd.R_mono (Kd.R_keep (IsS197.apart (show IsS197 w0 _ g s0_0 s0_1 s0_2 from IsS197.go HI0) (kr HO782.out) (by decide)) hk (fun _ h => h.2)) (fun _ h => h.1)); replace HK := Aside0.mk (KeepBut.trans (kp HK) hk (.inl rfl)); replace HB := Aside0.mk (hb); replace HI0 := Aside0.mk (hi); (try clear hb); (try clear hb2); (try clear hk); (try clear hi)) | ((with_reducible refine gate_dst (N := 3) rfl ?_); refine bx (N := 3) (cs := #[.int .i64 0, .int .i64 0, .int .i64 0]) (t := 68) ?_; intro gb786 hg w10 hbox hb; replace HO782 := rb HO782 hb; replace HB := Aside0.mk (below_step (IsS197.tb HB) hb); have BK786 := Aside0.mk (hbox); have GW786 := Aside0.mk ((by rw [hg]; exact (keep_size (w := w) (g := g) (row := none) (kp HK)) : w.heap.size ≤ gb786)); have GE786 := Aside0.mk ((Nat.le_trans HW0.out (by rw [hg]; exact (keep_size (w := w) (g := g) (row := none) (kp HK)) : w.heap.size ≤ gb786) : w0.heap.size ≤ gb786)); replace HK := Aside0.mk (KeepBut.trans (kp HK) (KeepBut.of_below hb g none) (.inl rfl)); have NB779_786 := Aside0.mk (nl_ hg BK779); have NB786_779 := Aside0.mk (ng_ hg BK779); replace BK779 := bb BK779 hb; have NB0_786 := Aside0.mk ((by rw [hg]; exact Nat.ne_of_lt (IsS197.lt (show IsS197 w0 _ g s0_0 t784 t785 from IsS197.go HI0)) : g ≠ gb786)); have NB786_0 := Aside0.mk ((by rw [hg]; exact Nat.ne_of_gt (IsS197.lt (show IsS197 w0 _ g s0_0 t784 t785 from IsS197.go HI0)) : gb786 ≠ g)); replace HI0 := Aside0.mk (IsS197.below (IsS197.go HI0) hb); clear hb hbox hg; have hnb11 := NB786_779.out; have hnc11 := NB779_786.out; have hnb12 := NB786_0.out; have hnc12 := NB0_786.out; obtain ⟨hcz13_0, hcz13_1, hcz13_2, hfz13_0, hfz13_1, hfz13_2⟩ := c3 BK786) | ((with_reducible refine gate_callee (f := 122) rfl ?_); refine gL 10 Try.func122 #[.int .i64 t783] ?_; (with_reducible refine (spec_l4Key.calls t783 t787 _ A3.out).mono ?_); rintro e w' ⟨rfl, ⟨nd, rfl⟩⟩; refine ⟨_, rfl, ?_⟩))
 (try simp only [Act.put, sA, sB, sC])
 go_cut [] (fun wc => ∃ (kq : Nat) (x1001_3 : Int) (x1002_3 : Int) (x787001_3 : Int), Aside0 (spec_l4DrawRight.j0 kq s0_0 x1001_3 x1002_3 t783 x787001_3 0 = some (r1, r2, r3, r4, r5)) ∧ Aside0 (kq ≤ k) ∧ Aside0 (wc.heap[gb779]? = some (.cells #[.int .i64 0, .int .i64 0, .int .i64 0] 68 (0, 0))) ∧ Aside0 (wc.heap[gb786]? = some (.cells #[.int .i64 t783, .int .i64 x787001_3, .int .i64 0] 68 (0, 0))) ∧ Aside0 (IsS197 w0 wc g s0_0 x1001_3 x1002_3) ∧ Aside0 (KeepBut w wc g none) ∧ Aside0 (Below w0.heap.size w0 wc))
 case first =>
  have H := HC4.out
  clear HC4
  by_cases c14 : t787 = true
  ·subst c14
   have H1 : ((spec_l1Below.f s0_0 t784 t785 4).bind fun bt788 => (spec_l4DrawRight.j0 k s0_0 bt788.2.1 bt788.2.2 t783 bt788.1 0)) = some (r1, r2, r3, r4, r5) := by rw [if_pos rfl] at H; exact H
   clear H
   have H := H1
   clear H1
   replace H := Option.bind_eq_some_iff.mp H
   obtain ⟨⟨t788, t789, t790⟩, A150, H⟩ := H
   replace H : (spec_l4DrawRight.j0 k s0_0 t789 t790 t783 t788 0) = some (r1, r2, r3, r4, r5) := H
   have A15 := Aside0.mk A150
   clear A150
   have H' := Aside0.mk H
   clear H
   go_wp2_with (first | ((with_reducible refine gate_callee (f := 159) rfl ?_); refine gL 12 Try.func159 #[.pointer (some ⟨g, 0, none⟩), .int .i64 4] ?_; (with_reducible refine (spec_l1Below.calls g s0_0 t784 t785 4 t788 t789 t790 w0 _ ?side1 ?side2 A15.out).mono ?_); (case side1 => repeat (first | (with_reducible first | exact HI0.out | apply IsS197.alloc | apply IsS197.drewN | apply IsS197.drew | apply IsS197.set_1 | apply IsS197.set_2 | refine IsS197.far ?_ NB0_779.out _ | refine IsS197.far ?_ NB0_786.out _) | exact HI0.out)); (case side2 => repeat (first | (with_reducible first | exact HB.out | apply below_alloc | apply pw_below_drewN | apply below_drew1 | refine below_set ?_ (IsS197.ge HI0.out) | refine below_set ?_ GE779.out | refine below_set ?_ GE786.out) | exact HB.out)); rintro e w16 ⟨rfl, hi, hb, hk⟩; refine ⟨_, rfl, ?_⟩; replace BK779 := Aside0.mk (KeepBut.blk hk (g' := gb779) (o := .cells #[.int .i64 0, .int .i64 0, .int .i64 0] 68 (0, 0)) (bf BK779) NB779_0.out (by simp)); replace HO782 := Aside0.mk (Kd.R_mono (Kd.R_keep (IsS197.apart (show IsS197 w0 _ g s0_0 t784 t785 from IsS197.go HI0) (kr ((Kd.R_mono (Kd.R_far (p := ⟨gb786, 2, none⟩) (Kd.R_far (p := ⟨gb786, 1, none⟩) (Kd.R_far (p := ⟨gb786, 0, none⟩) (Kd.R_types HO782.out BK786.out (by decide)) (fun _ hk => hk.2) (.int .i64 t783)) (fun _ hk => hk.2) (.int .i64 0)) (fun _ hk => hk.2) (.int .i64 0)) (fun _ h_ => h_.1)))) (by decide)) hk (fun _ h => h.2)) (fun _ h => h.1)); replace BK786 := Aside0.mk (KeepBut.blk hk (g' := gb786) (o := .cells #[.int .i64 t783, .int .i64 0, .int .i64 0] 68 (0, 0)) (by (with_reducible repeat (first | refine blk_drewN ?_ _ | refine blk_drew ?_ | refine blk_alloc ?_ _)); refine blk_put (cs := #[.int .i64 t783, .int .i64 0, .int .i64 0]) ?_ 2 _ rfl; (with_reducible repeat (first | refine blk_drewN ?_ _ | refine blk_drew ?_ | refine blk_alloc ?_ _)); refine blk_put (cs := #[.int .i64 t783, .int .i64 0, .int .i64 0]) ?_ 1 _ rfl; (with_reducible repeat (first | refine blk_drewN ?_ _ | refine blk_drew ?_ | refine blk_alloc ?_ _)); refine blk_put (cs := #[.int .i64 0, .int .i64 0, .int .i64 0]) ?_ 0 _ rfl; (with_reducible repeat (first | refine blk_drewN ?_ _ | refine blk_drew ?_ | refine blk_alloc ?_ _)); exact BK786.out) NB786_0.out (by simp)); replace HK := Aside0.mk (KeepBut.trans (kp HK) hk (.inl rfl)); replace HB := Aside0.mk (hb); replace HI0 := Aside0.mk (hi); (try clear hb); (try clear hb2); (try clear hk); (try clear hi); have hnb17 := NB786_779.out; have hnc17 := NB779_786.out; have hnb18 := NB786_0.out; have hnc18 := NB0_786.out; obtain ⟨hcz19_0, hcz19_1, hcz19_2, hfz19_0, hfz19_1, hfz19_2⟩ := c3 BK786))
   go_meet
   case rel => exact ⟨_, (t789), (t790), (t788), H', ⟨by first | omega | exact Nat.le_refl _⟩, ⟨bf BK779⟩, ⟨by (with_reducible repeat (first | refine blk_drewN ?_ _ | refine blk_drew ?_ | refine blk_alloc ?_ _)); refine blk_put (cs := #[.int .i64 t783, .int .i64 0, .int .i64 0]) ?_ 1 _ rfl; (with_reducible repeat (first | refine blk_drewN ?_ _ | refine blk_drew ?_ | refine blk_alloc ?_ _)); exact BK786.out⟩, ⟨IsS197.go HI0⟩, ⟨kp HK⟩, ⟨IsS197.tb HB⟩⟩
  ·replace c14 := Bool.eq_false_iff.mpr c14
   subst c14
   have H1 : (spec_l4DrawRight.j0 k s0_0 t784 t785 t783 0 0) = some (r1, r2, r3, r4, r5) := by rw [if_neg (show ¬ (false = true) by decide)] at H; exact H
   clear H
   have H := H1
   clear H1
   have H' := Aside0.mk H
   clear H
   go_wp2
   go_meet
   case rel => exact ⟨_, (t784), (t785), (0), H', ⟨by first | omega | exact Nat.le_refl _⟩, ⟨bf BK779⟩, ⟨by (with_reducible repeat (first | refine blk_drewN ?_ _ | refine blk_drew ?_ | refine blk_alloc ?_ _)); refine blk_put (cs := #[.int .i64 t783, .int .i64 0, .int .i64 0]) ?_ 2 _ rfl; (with_reducible repeat (first | refine blk_drewN ?_ _ | refine blk_drew ?_ | refine blk_alloc ?_ _)); refine blk_put (cs := #[.int .i64 t783, .int .i64 0, .int .i64 0]) ?_ 1 _ rfl; (with_reducible repeat (first | refine blk_drewN ?_ _ | refine blk_drew ?_ | refine blk_alloc ?_ _)); refine blk_put (cs := #[.int .i64 0, .int .i64 0, .int .i64 0]) ?_ 0 _ rfl; (with_reducible repeat (first | refine blk_drewN ?_ _ | refine blk_drew ?_ | refine blk_alloc ?_ _)); exact BK786.out⟩, ⟨IsS197.go HI0⟩, ⟨kp HK⟩, ⟨IsS197.tb HB⟩⟩
 case rest =>
  clear HC4
  try clear c1
  try clear p2
  try clear c11
  try clear c12
  try clear c14
  try clear c15
  try clear c16
  try clear c17
  try clear c18
  try clear hcz13_0
  try clear hcz13_1
  try clear hcz13_2
  try clear hcz19_0
  try clear hcz19_1
  try clear hcz19_2
  try clear hfz13_0
  try clear hfz13_1
  try clear hfz13_2
  try clear hfz19_0
  try clear hfz19_1
  try clear hfz19_2
  obtain ⟨kq, x1001_3, x1002_3, x787001_3, HA, HJ3, BK779, BK786, HI0, HK, HB⟩ := hcut
  cases kq with
  | zero => exact absurd HA.out (by simp [spec_l4DrawRight.j0])
  | succ kj3 =>
   have H := HA.out
   clear HA
   simp only [spec_l4DrawRight.j0] at H
   have HC20 := Aside0.mk H
   clear H
   have hnb21 := NB786_779.out
   have hnc21 := NB779_786.out
   have hnb22 := NB786_0.out
   have hnc22 := NB0_786.out
   obtain ⟨hcz23_0, hcz23_1, hcz23_2, hfz23_0, hfz23_1, hfz23_2⟩ := c3 BK786
   go_upto_if 16 with (fail)
   go_cut [] (fun wc => ∃ (kq : Nat) (x1001_19 : Int) (x1002_19 : Int) (x787001_19 : Int), Aside0 (spec_l4DrawRight.j1 kq s0_0 x1001_19 x1002_19 t783 x787001_19 0 = some (r1, r2, r3, r4, r5)) ∧ Aside0 (kq ≤ kj3) ∧ Aside0 (wc.heap[gb779]? = some (.cells #[.int .i64 0, .int .i64 0, .int .i64 0] 68 (0, 0))) ∧ Aside0 (wc.heap[gb786]? = some (.cells #[.int .i64 t783, .int .i64 x787001_19, .int .i64 0] 68 (0, 0))) ∧ Aside0 (IsS197 w0 wc g s0_0 x1001_19 x1002_19) ∧ Aside0 (KeepBut w wc g none) ∧ Aside0 (Below w0.heap.size w0 wc))
   case first =>
    have H := HC20.out
    clear HC20
    by_cases c24 : t783 = 6
    ·rw [if_pos c24] at H
     have c24b0 : (t783 == 6) = true := beq_iff_eq.mpr c24
     have c24b1 : (t783 != 6) = false := bne_eq_false_iff_eq.mpr c24
     clear c24
     (first | rw [c24b0] | (simp only [i64_w, i32_w]; rw [c24b0]) | skip)
     replace H := Option.bind_eq_some_iff.mp H
     obtain ⟨⟨t791, t792, t793⟩, A250, H⟩ := H
     replace H : (spec_l4DrawRight.j1 kj3 s0_0 t792 t793 t783 t791 0) = some (r1, r2, r3, r4, r5) := H
     have A25 := Aside0.mk A250
     clear A250
     have H' := Aside0.mk H
     clear H
     go_wp2_with (first | ((with_reducible refine gate_callee (f := 159) rfl ?_); refine gL 18 Try.func159 #[.pointer (some ⟨g, 0, none⟩), .int .i64 3] ?_; (with_reducible refine (spec_l1Below.calls g s0_0 x1001_3 x1002_3 3 t791 t792 t793 w0 _ ?side1 ?side2 A25.out).mono ?_); (case side1 => repeat (first | (with_reducible first | exact HI0.out | apply IsS197.alloc | apply IsS197.drewN | apply IsS197.drew | apply IsS197.set_1 | apply IsS197.set_2 | refine IsS197.far ?_ NB0_779.out _ | refine IsS197.far ?_ NB0_786.out _) | exact HI0.out)); (case side2 => repeat (first | (with_reducible first | exact HB.out | apply below_alloc | apply pw_below_drewN | apply below_drew1 | refine below_set ?_ (IsS197.ge HI0.out) | refine below_set ?_ GE779.out | refine below_set ?_ GE786.out) | exact HB.out)); rintro e w26 ⟨rfl, hi, hb, hk⟩; refine ⟨_, rfl, ?_⟩; replace BK779 := Aside0.mk (KeepBut.blk hk (g' := gb779) (o := .cells #[.int .i64 0, .int .i64 0, .int .i64 0] 68 (0, 0)) (bk BK779) NB779_0.out (by simp)); replace BK786 := Aside0.mk (KeepBut.blk hk (g' := gb786) (o := .cells #[.int .i64 t783, .int .i64 x787001_3, .int .i64 0] 68 (0, 0)) (bk BK786) NB786_0.out (by simp)); replace HK := Aside0.mk (KeepBut.trans (kp HK) hk (.inl rfl)); replace HB := Aside0.mk (hb); replace HI0 := Aside0.mk (hi); (try clear hb); (try clear hb2); (try clear hk); (try clear hi); have hnb27 := NB786_779.out; have hnc27 := NB779_786.out; have hnb28 := NB786_0.out; have hnc28 := NB0_786.out; obtain ⟨hcz29_0, hcz29_1, hcz29_2, hfz29_0, hfz29_1, hfz29_2⟩ := c3 BK786))
     go_meet
     case rel => exact ⟨_, (t792), (t793), (t791), H', ⟨by have := HJ3.out; first | omega | exact Nat.le_refl _⟩, ⟨bf BK779⟩, ⟨by (with_reducible repeat (first | refine blk_drewN ?_ _ | refine blk_drew ?_ | refine blk_alloc ?_ _)); refine blk_put (cs := #[.int .i64 t783, .int .i64 x787001_3, .int .i64 0]) ?_ 1 _ rfl; (with_reducible repeat (first | refine blk_drewN ?_ _ | refine blk_drew ?_ | refine blk_alloc ?_ _)); exact BK786.out⟩, ⟨IsS197.go HI0⟩, ⟨kp HK⟩, ⟨IsS197.tb HB⟩⟩
    ·rw [if_neg c24] at H
     have c24b0 : (t783 == 6) = false := beq_eq_false_iff_ne.mpr c24
     have c24b1 : (t783 != 6) = true := bne_iff_ne.mpr c24
     (first | rw [c24b0] | (simp only [i64_w, i32_w]; rw [c24b0]) | skip)
     have H' := Aside0.mk H
     clear H
     go_wp2
     go_meet
     case rel => exact ⟨_, (x1001_3), (x1002_3), (x787001_3), H', ⟨by have := HJ3.out; first | omega | exact Nat.le_refl _⟩, ⟨by (with_reducible repeat (first | refine blk_drewN ?_ _ | refine blk_drew ?_ | refine blk_alloc ?_ _)); exact BK779.out⟩, ⟨by (with_reducible repeat (first | refine blk_drewN ?_ _ | refine blk_drew ?_ | refine blk_alloc ?_ _)); exact BK786.out⟩, ⟨IsS197.go HI0⟩, ⟨kp HK⟩, ⟨IsS197.tb HB⟩⟩
   case rest =>
    clear HC20
    try clear c1
    try clear c2
    try clear p2
    try clear c11
    try clear c12
    try clear c14
    try clear c15
    try clear c16
    try clear c17
    try clear c18
    try clear c21
    try clear c22
    try clear c24
    try clear c24b0
    try clear c24b1
    try clear c27
    try clear c28
    try clear hcz13_0
    try clear hcz13_1
    try clear hcz13_2
    try clear hcz19_0
    try clear hcz19_1
    try clear hcz19_2
    try clear hcz23_0
    try clear hcz23_1
    try clear hcz23_2
    try clear hcz29_0
    try clear hcz29_1
    try clear hcz29_2
    try clear hfz13_0
    try clear hfz13_1
    try clear hfz13_2
    try clear hfz19_0
    try clear hfz19_1
    try clear hfz19_2
    try clear hfz23_0
    try clear hfz23_1
    try clear hfz23_2
    try clear hfz29_0
    try clear hfz29_1
    try clear hfz29_2
    try clear p2
    obtain ⟨kq, x1001_19, x1002_19, x787001_19, HA, HJ19, BK779, BK786, HI0, HK, HB⟩ := hcut
    cases kq with
    | zero => exact absurd HA.out (by simp [spec_l4DrawRight.j1])
    | succ kj19 =>
     have H := HA.out
     clear HA
     simp only [spec_l4DrawRight.j1] at H
     replace H := Option.bind_eq_some_iff.mp H
     obtain ⟨t794, A300, H⟩ := H
     replace H : (if t794 = true then ((spec_l1Below.f s0_0 x1001_19 x1002_19 4).bind fun bt795 => (some (t783, x787001_19, wrap64 (1 + bt795.1), bt795.2.1, bt795.2.2))) else (some (t783, x787001_19, 0, x1001_19, x1002_19))) = some (r1, r2, r3, r4, r5) := H
     have A30 := Aside0.mk A300
     clear A300
     by_cases c31 : t794 = true
     ·subst c31
      have H1 : ((spec_l1Below.f s0_0 x1001_19 x1002_19 4).bind fun bt795 => (some (t783, x787001_19, wrap64 (1 + bt795.1), bt795.2.1, bt795.2.2))) = some (r1, r2, r3, r4, r5) := by rw [if_pos rfl] at H; exact H
      clear H
      have H := H1
      clear H1
      replace H := Option.bind_eq_some_iff.mp H
      obtain ⟨⟨t795, t796, t797⟩, A320, H⟩ := H
      replace H : (some (t783, x787001_19, wrap64 (1 + t795), t796, t797)) = some (r1, r2, r3, r4, r5) := H
      have A32 := Aside0.mk A320
      clear A320
      simp only [Option.some.injEq, Prod.mk.injEq] at H
      obtain ⟨rfl, rfl, rfl, rfl, rfl⟩ := H
      have hnb33 := NB786_779.out
      have hnc33 := NB779_786.out
      have hnb34 := NB786_0.out
      have hnc34 := NB0_786.out
      obtain ⟨hcz35_0, hcz35_1, hcz35_2, hfz35_0, hfz35_1, hfz35_2⟩ := c3 BK786
      go_wp2_with (first | ((with_reducible refine gate_callee (f := 124) rfl ?_); refine gL 22 Try.func124 #[.int .i64 t783] ?_; (with_reducible refine (spec_l4Val.calls t783 true _ A30.out).mono ?_); rintro e w' ⟨rfl, ⟨nd, rfl⟩⟩; refine ⟨_, rfl, ?_⟩; (try (rw [drewN_self wc]; generalize hq_ : World.drewN wc _ = wc; have n0_ : Aside0 (wc.heap[gb779]? = some (.cells #[.int .i64 0, .int .i64 0, .int .i64 0] 68 (0, 0))) := ⟨by rw [← hq_]; exact (bk BK779)⟩; have n1_ : Aside0 (wc.heap[gb786]? = some (.cells #[.int .i64 t783, .int .i64 x787001_19, .int .i64 0] 68 (0, 0))) := ⟨by rw [← hq_]; exact (bk BK786)⟩; have n2_ : Aside0 (IsS197 w0 wc g s0_0 x1001_19 x1002_19) := ⟨by rw [← hq_]; exact (IsS197.go HI0)⟩; have n3_ : Aside0 (KeepBut w wc g none) := ⟨by rw [← hq_]; exact (kp HK)⟩; have n4_ : Aside0 (Below w0.heap.size w0 wc) := ⟨by rw [← hq_]; exact (IsS197.tb HB)⟩; clear BK779 BK786 HI0 HK HB hq_; have BK779 := n0_; have BK786 := n1_; have HI0 := n2_; have HK := n3_; have HB := n4_; clear n0_ n1_ n2_ n3_ n4_))) | ((with_reducible refine gate_callee (f := 159) rfl ?_); refine gL 24 Try.func159 #[.pointer (some ⟨g, 0, none⟩), .int .i64 4] ?_; (with_reducible refine (spec_l1Below.calls g s0_0 x1001_19 x1002_19 4 t795 t796 t797 w0 _ ?side1 ?side2 A32.out).mono ?_); (case side1 => repeat (first | (with_reducible first | exact HI0.out | apply IsS197.alloc | apply IsS197.drewN | apply IsS197.drew | apply IsS197.set_1 | apply IsS197.set_2 | refine IsS197.far ?_ NB0_779.out _ | refine IsS197.far ?_ NB0_786.out _) | exact HI0.out)); (case side2 => repeat (first | (with_reducible first | exact HB.out | apply below_alloc | apply pw_below_drewN | apply below_drew1 | refine below_set ?_ (IsS197.ge HI0.out) | refine below_set ?_ GE779.out | refine below_set ?_ GE786.out) | exact HB.out)); rintro e w36 ⟨rfl, hi, hb, hk⟩; refine ⟨_, rfl, ?_⟩; replace BK779 := Aside0.mk (KeepBut.blk hk (g' := gb779) (o := .cells #[.int .i64 0, .int .i64 0, .int .i64 0] 68 (0, 0)) (bk BK779) NB779_0.out (by simp)); replace BK786 := Aside0.mk (KeepBut.blk hk (g' := gb786) (o := .cells #[.int .i64 t783, .int .i64 x787001_19, .int .i64 0] 68 (0, 0)) (bk BK786) NB786_0.out (by simp)); replace HK := Aside0.mk (KeepBut.trans (kp HK) hk (.inl rfl)); replace HB := Aside0.mk (hb); replace HI0 := Aside0.mk (hi); (try clear hb); (try clear hb2); (try clear hk); (try clear hi); obtain ⟨hcz37_0, hcz37_1, hcz37_2, hfz37_0, hfz37_1, hfz37_2⟩ := c3 BK786; have hnb38 := NB779_0.out; have hnc38 := NB0_779.out; obtain ⟨hcz39_0, hcz39_1, hcz39_2, hfz39_0, hfz39_1, hfz39_2⟩ := c3 BK779))
      refine bodyPost_ret (results_cell_row rfl _ _ gb779 68 #[.int .i64 t783, .int .i64 x787001_19, .int .i64 (wrap64 (1 + t795))] (0, 0) _ rfl (by (with_reducible repeat (first | refine blk_drewN ?_ _ | refine blk_drew ?_ | refine blk_alloc ?_ _)); refine blk_put (cs := #[.int .i64 t783, .int .i64 x787001_19, .int .i64 0]) ?_ 2 _ rfl; (with_reducible repeat (first | refine blk_drewN ?_ _ | refine blk_drew ?_ | refine blk_alloc ?_ _)); refine blk_put (cs := #[.int .i64 t783, .int .i64 0, .int .i64 0]) ?_ 1 _ rfl; (with_reducible repeat (first | refine blk_drewN ?_ _ | refine blk_drew ?_ | refine blk_alloc ?_ _)); refine blk_put (cs := #[.int .i64 0, .int .i64 0, .int .i64 0]) ?_ 0 _ rfl; (with_reducible repeat (first | refine blk_drewN ?_ _ | refine blk_drew ?_ | refine blk_alloc ?_ _)); refine blk_far ?_ NB779_786.out _; (with_reducible repeat (first | refine blk_drewN ?_ _ | refine blk_drew ?_ | refine blk_alloc ?_ _)); exact BK779.out) Try.underlying68 rfl (by kernel_rfl)) rfl ?_
      exact ⟨er, IsS197.go HI0, IsS197.tb HB, kp HK⟩
     ·replace c31 := Bool.eq_false_iff.mpr c31
      subst c31
      have H1 : (some (t783, x787001_19, 0, x1001_19, x1002_19)) = some (r1, r2, r3, r4, r5) := by rw [if_neg (show ¬ (false = true) by decide)] at H; exact H
      clear H
      have H := H1
      clear H1
      simp only [Option.some.injEq, Prod.mk.injEq] at H
      obtain ⟨rfl, rfl, rfl, rfl, rfl⟩ := H
      have hnb40 := NB786_779.out
      have hnc40 := NB779_786.out
      have hnb41 := NB786_0.out
      have hnc41 := NB0_786.out
      obtain ⟨hcz42_0, hcz42_1, hcz42_2, hfz42_0, hfz42_1, hfz42_2⟩ := c3 BK786
      go_wp2_with (first | ((with_reducible refine gate_callee (f := 124) rfl ?_); refine gL 22 Try.func124 #[.int .i64 t783] ?_; (with_reducible refine (spec_l4Val.calls t783 false _ A30.out).mono ?_); rintro e w' ⟨rfl, ⟨nd, rfl⟩⟩; refine ⟨_, rfl, ?_⟩; (try (rw [drewN_self wc]; generalize hq_ : World.drewN wc _ = wc; have n0_ : Aside0 (wc.heap[gb779]? = some (.cells #[.int .i64 0, .int .i64 0, .int .i64 0] 68 (0, 0))) := ⟨by rw [← hq_]; exact (bk BK779)⟩; have n1_ : Aside0 (wc.heap[gb786]? = some (.cells #[.int .i64 t783, .int .i64 x787001_19, .int .i64 0] 68 (0, 0))) := ⟨by rw [← hq_]; exact (bk BK786)⟩; have n2_ : Aside0 (IsS197 w0 wc g s0_0 x1001_19 x1002_19) := ⟨by rw [← hq_]; exact (IsS197.go HI0)⟩; have n3_ : Aside0 (KeepBut w wc g none) := ⟨by rw [← hq_]; exact (kp HK)⟩; have n4_ : Aside0 (Below w0.heap.size w0 wc) := ⟨by rw [← hq_]; exact (IsS197.tb HB)⟩; clear BK779 BK786 HI0 HK HB hq_; have BK779 := n0_; have BK786 := n1_; have HI0 := n2_; have HK := n3_; have HB := n4_; clear n0_ n1_ n2_ n3_ n4_)); obtain ⟨hcz43_0, hcz43_1, hcz43_2, hfz43_0, hfz43_1, hfz43_2⟩ := c3 BK786; have hnb44 := NB779_0.out; have hnc44 := NB0_779.out; obtain ⟨hcz45_0, hcz45_1, hcz45_2, hfz45_0, hfz45_1, hfz45_2⟩ := c3 BK779))
      refine bodyPost_ret (results_cell_row rfl _ _ gb779 68 #[.int .i64 t783, .int .i64 x787001_19, .int .i64 0] (0, 0) _ rfl (by (with_reducible repeat (first | refine blk_drewN ?_ _ | refine blk_drew ?_ | refine blk_alloc ?_ _)); refine blk_put (cs := #[.int .i64 t783, .int .i64 x787001_19, .int .i64 0]) ?_ 2 _ rfl; (with_reducible repeat (first | refine blk_drewN ?_ _ | refine blk_drew ?_ | refine blk_alloc ?_ _)); refine blk_put (cs := #[.int .i64 t783, .int .i64 0, .int .i64 0]) ?_ 1 _ rfl; (with_reducible repeat (first | refine blk_drewN ?_ _ | refine blk_drew ?_ | refine blk_alloc ?_ _)); refine blk_put (cs := #[.int .i64 0, .int .i64 0, .int .i64 0]) ?_ 0 _ rfl; (with_reducible repeat (first | refine blk_drewN ?_ _ | refine blk_drew ?_ | refine blk_alloc ?_ _)); exact BK779.out) Try.underlying68 rfl (by kernel_rfl)) rfl ?_
      exact ⟨er, IsS197.go HI0, IsS197.tb HB, kp HK⟩
def spec_l4Draw.f (k : Nat) (s0_0 : List Int) (s0_1 : Int) (s0_2 : Int) : Option (Int × Int × Int × Int × Int) := (spec_l4DrawRight.f k s0_0 s0_1 s0_2).bind fun bt799 => ((spec_l1Below.f s0_0 bt799.2.2.2.1 bt799.2.2.2.2 10).bind fun bt805 => (if bt805.1 = 0 then ((spec_l1Below.f s0_0 bt805.2.1 bt805.2.2 13).bind fun bt808 => (some (wrap64 (bt808.1 - 1), bt799.2.1, bt799.2.2.1, bt808.2.1, bt808.2.2))) else (if bt805.1 = 1 then ((spec_l1Below.f s0_0 bt805.2.1 bt805.2.2 7).bind fun bt811 => (some (bt799.1, wrap64 (bt811.1 - 1), bt799.2.2.1, bt811.2.1, bt811.2.2))) else (if bt805.1 = 2 then ((spec_l1Below.f s0_0 bt805.2.1 bt805.2.2 9).bind fun bt814 => (some (bt799.1, bt799.2.1, wrap64 (bt814.1 - 1), bt814.2.1, bt814.2.2))) else (some (bt799.1, bt799.2.1, bt799.2.2.1, bt805.2.1, bt805.2.2))))))
theorem spec_l4Draw.mono : ∀ a0 a1 a2 k, LeO (spec_l4Draw.f k a0 a1 a2) (spec_l4Draw.f (k + 1) a0 a1 a2) := by
 intro a0 a1 a2 k
 unfold spec_l4Draw.f
 repeat' first
   | (with_reducible exact spec_l4DrawRight.mono _ _ _ _)
   | (with_reducible exact LeO.refl _)
   | (with_reducible exact LeO.none _)
   | (with_reducible refine LeO.ite ?_ ?_)
   | (with_reducible refine LeO.bind ?_ (fun _ => ?_))
   | exact spec_l4DrawRight.mono _ _ _ _
   | exact LeO.none _
   | refine LeO.ite ?_ ?_
   | refine LeO.bind ?_ (fun _ => ?_)
set_option maxHeartbeats 8000000 in
set_option maxRecDepth 100000 in
theorem spec_l4Draw.calls (k : Nat) (g : Nat) (s0_0 : List Int) (s0_1 : Int) (s0_2 : Int) (r1 : Int) (r2 : Int) (r3 : Int) (r4 : Int) (r5 : Int) (w0 w : World) (hI : IsS197 w0 w g s0_0 s0_1 s0_2) (hB : Below w0.heap.size w0 w) (h : spec_l4Draw.f k s0_0 s0_1 s0_2 = some (r1, r2, r3, r4, r5)) :
  Calls Try.prog 107 #[.pointer (some ⟨g, 0, none⟩)] w fun e w' => e = .returned (.agg #[.int .i64 r1, .int .i64 r2, .int .i64 r3]) ∧ IsS197 w0 w' g s0_0 r4 r5 ∧ Below w0.heap.size w0 w' ∧ KeepBut w w' g none := by
 have hu68 := Try.underlying68
 have HI0 := Aside0.mk hI
 have HK := Aside0.mk (KeepBut.refl w g none)
 have HL := Aside0.mk hB.size
 clear hI
 have HW0 := Aside0.mk hB.size
 have HB := Aside0.mk hB
 clear hB
 have H : ((spec_l4DrawRight.f k s0_0 s0_1 s0_2).bind fun bt799 => ((spec_l1Below.f s0_0 bt799.2.2.2.1 bt799.2.2.2.2 10).bind fun bt805 => (if bt805.1 = 0 then ((spec_l1Below.f s0_0 bt805.2.1 bt805.2.2 13).bind fun bt808 => (some (wrap64 (bt808.1 - 1), bt799.2.1, bt799.2.2.1, bt808.2.1, bt808.2.2))) else (if bt805.1 = 1 then ((spec_l1Below.f s0_0 bt805.2.1 bt805.2.2 7).bind fun bt811 => (some (bt799.1, wrap64 (bt811.1 - 1), bt799.2.2.1, bt811.2.1, bt811.2.2))) else (if bt805.1 = 2 then ((spec_l1Below.f s0_0 bt805.2.1 bt805.2.2 9).bind fun bt814 => (some (bt799.1, bt799.2.1, wrap64 (bt814.1 - 1), bt814.2.1, bt814.2.2))) else (some (bt799.1, bt799.2.1, bt799.2.2.1, bt805.2.1, bt805.2.2))))))) = some (r1, r2, r3, r4, r5) := h
 clear h
 replace H := Option.bind_eq_some_iff.mp H
 obtain ⟨⟨t799, t800, t801, t802, t803⟩, A20, H⟩ := H
 replace H : ((spec_l1Below.f s0_0 t802 t803 10).bind fun bt805 => (if bt805.1 = 0 then ((spec_l1Below.f s0_0 bt805.2.1 bt805.2.2 13).bind fun bt808 => (some (wrap64 (bt808.1 - 1), t800, t801, bt808.2.1, bt808.2.2))) else (if bt805.1 = 1 then ((spec_l1Below.f s0_0 bt805.2.1 bt805.2.2 7).bind fun bt811 => (some (t799, wrap64 (bt811.1 - 1), t801, bt811.2.1, bt811.2.2))) else (if bt805.1 = 2 then ((spec_l1Below.f s0_0 bt805.2.1 bt805.2.2 9).bind fun bt814 => (some (t799, t800, wrap64 (bt814.1 - 1), bt814.2.1, bt814.2.2))) else (some (t799, t800, t801, bt805.2.1, bt805.2.2)))))) = some (r1, r2, r3, r4, r5) := H
 have A2 := Aside0.mk A20
 clear A20
 replace H := Option.bind_eq_some_iff.mp H
 obtain ⟨⟨t805, t806, t807⟩, A30, H⟩ := H
 replace H : (if t805 = 0 then ((spec_l1Below.f s0_0 t806 t807 13).bind fun bt808 => (some (wrap64 (bt808.1 - 1), t800, t801, bt808.2.1, bt808.2.2))) else (if t805 = 1 then ((spec_l1Below.f s0_0 t806 t807 7).bind fun bt811 => (some (t799, wrap64 (bt811.1 - 1), t801, bt811.2.1, bt811.2.2))) else (if t805 = 2 then ((spec_l1Below.f s0_0 t806 t807 9).bind fun bt814 => (some (t799, t800, wrap64 (bt814.1 - 1), bt814.2.1, bt814.2.2))) else (some (t799, t800, t801, t806, t807))))) = some (r1, r2, r3, r4, r5) := H
 have A3 := Aside0.mk A30
 clear A30
 by_cases c4 : t805 = 0
 ·rw [if_pos c4] at H
  have c4b0 : (t805 == 0) = true := beq_iff_eq.mpr c4
  have c4b1 : (t805 != 0) = false := bne_eq_false_iff_eq.mpr c4
  clear c4
  replace H := Option.bind_eq_some_iff.mp H
  obtain ⟨⟨t808, t809, t810⟩, A50, H⟩ := H
  replace H : (some (wrap64 (t808 - 1), t800, t801, t809, t810)) = some (r1, r2, r3, r4, r5) := H
  have A5 := Aside0.mk A50
  clear A50
  simp only [Option.some.injEq, Prod.mk.injEq] at H
  obtain ⟨rfl, rfl, rfl, rfl, rfl⟩ := H
  go_enter Try.func107, Try.ntmps107
  go_wp2_with (first | ((with_reducible refine gate_dst (N := 2) rfl ?_); refine bx (N := 2) (cs := #[.int .i64 0, .int .i64 0, .int .i64 0]) (t := 68) ?_; intro gb798 hg w6 hbox hb; replace HB := Aside0.mk (below_step (IsS197.tb HB) hb); have BK798 := Aside0.mk (hbox); have GW798 := Aside0.mk ((by rw [hg]; exact (keep_size (w := w) (g := g) (row := none) (kp HK)) : w.heap.size ≤ gb798)); have GE798 := Aside0.mk ((Nat.le_trans HW0.out (by rw [hg]; exact (keep_size (w := w) (g := g) (row := none) (kp HK)) : w.heap.size ≤ gb798) : w0.heap.size ≤ gb798)); replace HK := Aside0.mk (KeepBut.trans (kp HK) (KeepBut.of_below hb g none) (.inl rfl)); have NB0_798 := Aside0.mk ((by rw [hg]; exact Nat.ne_of_lt (IsS197.lt (show IsS197 w0 _ g s0_0 s0_1 s0_2 from IsS197.go HI0)) : g ≠ gb798)); have NB798_0 := Aside0.mk ((by rw [hg]; exact Nat.ne_of_gt (IsS197.lt (show IsS197 w0 _ g s0_0 s0_1 s0_2 from IsS197.go HI0)) : gb798 ≠ g)); replace HI0 := Aside0.mk (IsS197.below (IsS197.go HI0) hb); clear hb hbox hg) | ((with_reducible refine gate_callee (f := 113) rfl ?_); refine gL 5 Try.func113 #[.pointer (some ⟨g, 0, none⟩)] ?_; (with_reducible refine (spec_l4DrawRight.calls k g s0_0 s0_1 s0_2 t799 t800 t801 t802 t803 w0 _ ?side1 ?side2 A2.out).mono ?_); (case side1 => repeat (first | (with_reducible first | exact HI0.out | apply IsS197.alloc | apply IsS197.drewN | apply IsS197.drew | apply IsS197.set_1 | apply IsS197.set_2 | refine IsS197.far ?_ NB0_798.out _) | exact HI0.out)); (case side2 => repeat (first | (with_reducible first | exact HB.out | apply below_alloc | apply pw_below_drewN | apply below_drew1 | refine below_set ?_ (IsS197.ge HI0.out) | refine below_set ?_ GE798.out) | exact HB.out)); rintro e w7 ⟨rfl, hi, hb, hk⟩; refine ⟨_, rfl, ?_⟩; replace BK798 := Aside0.mk (KeepBut.blk hk (g' := gb798) (o := .cells #[.int .i64 0, .int .i64 0, .int .i64 0] 68 (0, 0)) (bk BK798) NB798_0.out (by simp)); replace HK := Aside0.mk (KeepBut.trans (kp HK) hk (.inl rfl)); replace HB := Aside0.mk (hb); replace HI0 := Aside0.mk (hi); (try clear hb); (try clear hb2); (try clear hk); (try clear hi)) | ((with_reducible refine gate_dst (N := 3) rfl ?_); refine bx (N := 3) (cs := #[.int .i64 0, .int .i64 0, .int .i64 0]) (t := 68) ?_; intro gb804 hg w8 hbox hb; replace HB := Aside0.mk (below_step (IsS197.tb HB) hb); have BK804 := Aside0.mk (hbox); have GW804 := Aside0.mk ((by rw [hg]; exact (keep_size (w := w) (g := g) (row := none) (kp HK)) : w.heap.size ≤ gb804)); have GE804 := Aside0.mk ((Nat.le_trans HW0.out (by rw [hg]; exact (keep_size (w := w) (g := g) (row := none) (kp HK)) : w.heap.size ≤ gb804) : w0.heap.size ≤ gb804)); replace HK := Aside0.mk (KeepBut.trans (kp HK) (KeepBut.of_below hb g none) (.inl rfl)); have NB798_804 := Aside0.mk (nl_ hg BK798); have NB804_798 := Aside0.mk (ng_ hg BK798); replace BK798 := bb BK798 hb; have NB0_804 := Aside0.mk ((by rw [hg]; exact Nat.ne_of_lt (IsS197.lt (show IsS197 w0 _ g s0_0 t802 t803 from IsS197.go HI0)) : g ≠ gb804)); have NB804_0 := Aside0.mk ((by rw [hg]; exact Nat.ne_of_gt (IsS197.lt (show IsS197 w0 _ g s0_0 t802 t803 from IsS197.go HI0)) : gb804 ≠ g)); replace HI0 := Aside0.mk (IsS197.below (IsS197.go HI0) hb); clear hb hbox hg; have hnb9 := NB804_798.out; have hnc9 := NB798_804.out; have hnb10 := NB804_0.out; have hnc10 := NB0_804.out; obtain ⟨hcz11_0, hcz11_1, hcz11_2, hfz11_0, hfz11_1, hfz11_2⟩ := c3 BK804) | ((with_reducible refine gate_callee (f := 159) rfl ?_); refine gL 7 Try.func159 #[.pointer (some ⟨g, 0, none⟩), .int .i64 10] ?_; (with_reducible refine (spec_l1Below.calls g s0_0 t802 t803 10 t805 t806 t807 w0 _ ?side1 ?side2 A3.out).mono ?_); (case side1 => repeat (first | (with_reducible first | exact HI0.out | apply IsS197.alloc | apply IsS197.drewN | apply IsS197.drew | apply IsS197.set_1 | apply IsS197.set_2 | refine IsS197.far ?_ NB0_798.out _ | refine IsS197.far ?_ NB0_804.out _) | exact HI0.out)); (case side2 => repeat (first | (with_reducible first | exact HB.out | apply below_alloc | apply pw_below_drewN | apply below_drew1 | refine below_set ?_ (IsS197.ge HI0.out) | refine below_set ?_ GE798.out | refine below_set ?_ GE804.out) | exact HB.out)); rintro e w12 ⟨rfl, hi, hb, hk⟩; refine ⟨_, rfl, ?_⟩; replace BK798 := Aside0.mk (KeepBut.blk hk (g' := gb798) (o := .cells #[.int .i64 0, .int .i64 0, .int .i64 0] 68 (0, 0)) (bf BK798) NB798_0.out (by simp)); replace BK804 := Aside0.mk (KeepBut.blk hk (g' := gb804) (o := .cells #[.int .i64 t799, .int .i64 t800, .int .i64 t801] 68 (0, 0)) (by (with_reducible repeat (first | refine blk_drewN ?_ _ | refine blk_drew ?_ | refine blk_alloc ?_ _)); refine blk_put (cs := #[.int .i64 t799, .int .i64 t800, .int .i64 0]) ?_ 2 _ rfl; (with_reducible repeat (first | refine blk_drewN ?_ _ | refine blk_drew ?_ | refine blk_alloc ?_ _)); refine blk_put (cs := #[.int .i64 t799, .int .i64 0, .int .i64 0]) ?_ 1 _ rfl; (with_reducible repeat (first | refine blk_drewN ?_ _ | refine blk_drew ?_ | refine blk_alloc ?_ _)); refine blk_put (cs := #[.int .i64 0, .int .i64 0, .int .i64 0]) ?_ 0 _ rfl; (with_reducible repeat (first | refine blk_drewN ?_ _ | refine blk_drew ?_ | refine blk_alloc ?_ _)); exact BK804.out) NB804_0.out (by simp)); replace HK := Aside0.mk (KeepBut.trans (kp HK) hk (.inl rfl)); replace HB := Aside0.mk (hb); replace HI0 := Aside0.mk (hi); (try clear hb); (try clear hb2); (try clear hk); (try clear hi)) | ((with_reducible refine gate_callee (f := 159) rfl ?_); refine gL 11 Try.func159 #[.pointer (some ⟨g, 0, none⟩), .int .i64 13] ?_; (with_reducible refine (spec_l1Below.calls g s0_0 t806 t807 13 t808 t809 t810 w0 _ ?side1 ?side2 A5.out).mono ?_); (case side1 => repeat (first | (with_reducible first | exact HI0.out | apply IsS197.alloc | apply IsS197.drewN | apply IsS197.drew | apply IsS197.set_1 | apply IsS197.set_2 | refine IsS197.far ?_ NB0_798.out _ | refine IsS197.far ?_ NB0_804.out _) | exact HI0.out)); (case side2 => repeat (first | (with_reducible first | exact HB.out | apply below_alloc | apply pw_below_drewN | apply below_drew1 | refine below_set ?_ (IsS197.ge HI0.out) | refine below_set ?_ GE798.out | refine below_set ?_ GE804.out) | exact HB.out)); rintro e w13 ⟨rfl, hi, hb, hk⟩; refine ⟨_, rfl, ?_⟩; replace BK798 := Aside0.mk (KeepBut.blk hk (g' := gb798) (o := .cells #[.int .i64 0, .int .i64 0, .int .i64 0] 68 (0, 0)) (bk BK798) NB798_0.out (by simp)); replace BK804 := Aside0.mk (KeepBut.blk hk (g' := gb804) (o := .cells #[.int .i64 t799, .int .i64 t800, .int .i64 t801] 68 (0, 0)) (bk BK804) NB804_0.out (by simp)); replace HK := Aside0.mk (KeepBut.trans (kp HK) hk (.inl rfl)); replace HB := Aside0.mk (hb); replace HI0 := Aside0.mk (hi); (try clear hb); (try clear hb2); (try clear hk); (try clear hi); obtain ⟨hcz14_0, hcz14_1, hcz14_2, hfz14_0, hfz14_1, hfz14_2⟩ := c3 BK804; have hnb15 := NB798_0.out; have hnc15 := NB0_798.out; obtain ⟨hcz16_0, hcz16_1, hcz16_2, hfz16_0, hfz16_1, hfz16_2⟩ := c3 BK798))
  refine bodyPost_ret (results_cell_row rfl _ _ gb798 68 #[.int .i64 (wrap64 (t808 - 1)), .int .i64 t800, .int .i64 t801] (0, 0) _ rfl (by (with_reducible repeat (first | refine blk_drewN ?_ _ | refine blk_drew ?_ | refine blk_alloc ?_ _)); refine blk_put (cs := #[.int .i64 (wrap64 (t808 - 1)), .int .i64 t800, .int .i64 0]) ?_ 2 _ rfl; (with_reducible repeat (first | refine blk_drewN ?_ _ | refine blk_drew ?_ | refine blk_alloc ?_ _)); refine blk_put (cs := #[.int .i64 (wrap64 (t808 - 1)), .int .i64 0, .int .i64 0]) ?_ 1 _ rfl; (with_reducible repeat (first | refine blk_drewN ?_ _ | refine blk_drew ?_ | refine blk_alloc ?_ _)); refine blk_put (cs := #[.int .i64 0, .int .i64 0, .int .i64 0]) ?_ 0 _ rfl; (with_reducible repeat (first | refine blk_drewN ?_ _ | refine blk_drew ?_ | refine blk_alloc ?_ _)); refine blk_far ?_ NB798_804.out _; (with_reducible repeat (first | refine blk_drewN ?_ _ | refine blk_drew ?_ | refine blk_alloc ?_ _)); exact BK798.out) Try.underlying68 rfl (by kernel_rfl)) rfl ?_
  exact ⟨er, IsS197.go HI0, IsS197.tb HB, kp HK⟩
 ·rw [if_neg c4] at H
  have c4b0 : (t805 == 0) = false := beq_eq_false_iff_ne.mpr c4
  have c4b1 : (t805 != 0) = true := bne_iff_ne.mpr c4
  by_cases c17 : t805 = 1
  ·rw [if_pos c17] at H
   have c17b0 : (t805 == 1) = true := beq_iff_eq.mpr c17
   have c17b1 : (t805 != 1) = false := bne_eq_false_iff_eq.mpr c17
   clear c17
   replace H := Option.bind_eq_some_iff.mp H
   obtain ⟨⟨t811, t812, t813⟩, A180, H⟩ := H
   replace H : (some (t799, wrap64 (t811 - 1), t801, t812, t813)) = some (r1, r2, r3, r4, r5) := H
   have A18 := Aside0.mk A180
   clear A180
   simp only [Option.some.injEq, Prod.mk.injEq] at H
   obtain ⟨rfl, rfl, rfl, rfl, rfl⟩ := H
   go_enter Try.func107, Try.ntmps107
   go_wp2_with (first | ((with_reducible refine gate_dst (N := 2) rfl ?_); refine bx (N := 2) (cs := #[.int .i64 0, .int .i64 0, .int .i64 0]) (t := 68) ?_; intro gb798 hg w19 hbox hb; replace HB := Aside0.mk (below_step (IsS197.tb HB) hb); have BK798 := Aside0.mk (hbox); have GW798 := Aside0.mk ((by rw [hg]; exact (keep_size (w := w) (g := g) (row := none) (kp HK)) : w.heap.size ≤ gb798)); have GE798 := Aside0.mk ((Nat.le_trans HW0.out (by rw [hg]; exact (keep_size (w := w) (g := g) (row := none) (kp HK)) : w.heap.size ≤ gb798) : w0.heap.size ≤ gb798)); replace HK := Aside0.mk (KeepBut.trans (kp HK) (KeepBut.of_below hb g none) (.inl rfl)); have NB0_798 := Aside0.mk ((by rw [hg]; exact Nat.ne_of_lt (IsS197.lt (show IsS197 w0 _ g s0_0 s0_1 s0_2 from IsS197.go HI0)) : g ≠ gb798)); have NB798_0 := Aside0.mk ((by rw [hg]; exact Nat.ne_of_gt (IsS197.lt (show IsS197 w0 _ g s0_0 s0_1 s0_2 from IsS197.go HI0)) : gb798 ≠ g)); replace HI0 := Aside0.mk (IsS197.below (IsS197.go HI0) hb); clear hb hbox hg) | ((with_reducible refine gate_callee (f := 113) rfl ?_); refine gL 5 Try.func113 #[.pointer (some ⟨g, 0, none⟩)] ?_; (with_reducible refine (spec_l4DrawRight.calls k g s0_0 s0_1 s0_2 t799 t800 t801 t802 t803 w0 _ ?side1 ?side2 A2.out).mono ?_); (case side1 => repeat (first | (with_reducible first | exact HI0.out | apply IsS197.alloc | apply IsS197.drewN | apply IsS197.drew | apply IsS197.set_1 | apply IsS197.set_2 | refine IsS197.far ?_ NB0_798.out _) | exact HI0.out)); (case side2 => repeat (first | (with_reducible first | exact HB.out | apply below_alloc | apply pw_below_drewN | apply below_drew1 | refine below_set ?_ (IsS197.ge HI0.out) | refine below_set ?_ GE798.out) | exact HB.out)); rintro e w20 ⟨rfl, hi, hb, hk⟩; refine ⟨_, rfl, ?_⟩; replace BK798 := Aside0.mk (KeepBut.blk hk (g' := gb798) (o := .cells #[.int .i64 0, .int .i64 0, .int .i64 0] 68 (0, 0)) (bk BK798) NB798_0.out (by simp)); replace HK := Aside0.mk (KeepBut.trans (kp HK) hk (.inl rfl)); replace HB := Aside0.mk (hb); replace HI0 := Aside0.mk (hi); (try clear hb); (try clear hb2); (try clear hk); (try clear hi)) | ((with_reducible refine gate_dst (N := 3) rfl ?_); refine bx (N := 3) (cs := #[.int .i64 0, .int .i64 0, .int .i64 0]) (t := 68) ?_; intro gb804 hg w21 hbox hb; replace HB := Aside0.mk (below_step (IsS197.tb HB) hb); have BK804 := Aside0.mk (hbox); have GW804 := Aside0.mk ((by rw [hg]; exact (keep_size (w := w) (g := g) (row := none) (kp HK)) : w.heap.size ≤ gb804)); have GE804 := Aside0.mk ((Nat.le_trans HW0.out (by rw [hg]; exact (keep_size (w := w) (g := g) (row := none) (kp HK)) : w.heap.size ≤ gb804) : w0.heap.size ≤ gb804)); replace HK := Aside0.mk (KeepBut.trans (kp HK) (KeepBut.of_below hb g none) (.inl rfl)); have NB798_804 := Aside0.mk (nl_ hg BK798); have NB804_798 := Aside0.mk (ng_ hg BK798); replace BK798 := bb BK798 hb; have NB0_804 := Aside0.mk ((by rw [hg]; exact Nat.ne_of_lt (IsS197.lt (show IsS197 w0 _ g s0_0 t802 t803 from IsS197.go HI0)) : g ≠ gb804)); have NB804_0 := Aside0.mk ((by rw [hg]; exact Nat.ne_of_gt (IsS197.lt (show IsS197 w0 _ g s0_0 t802 t803 from IsS197.go HI0)) : gb804 ≠ g)); replace HI0 := Aside0.mk (IsS197.below (IsS197.go HI0) hb); clear hb hbox hg; have hnb22 := NB804_798.out; have hnc22 := NB798_804.out; have hnb23 := NB804_0.out; have hnc23 := NB0_804.out; obtain ⟨hcz24_0, hcz24_1, hcz24_2, hfz24_0, hfz24_1, hfz24_2⟩ := c3 BK804) | ((with_reducible refine gate_callee (f := 159) rfl ?_); refine gL 7 Try.func159 #[.pointer (some ⟨g, 0, none⟩), .int .i64 10] ?_; (with_reducible refine (spec_l1Below.calls g s0_0 t802 t803 10 t805 t806 t807 w0 _ ?side1 ?side2 A3.out).mono ?_); (case side1 => repeat (first | (with_reducible first | exact HI0.out | apply IsS197.alloc | apply IsS197.drewN | apply IsS197.drew | apply IsS197.set_1 | apply IsS197.set_2 | refine IsS197.far ?_ NB0_798.out _ | refine IsS197.far ?_ NB0_804.out _) | exact HI0.out)); (case side2 => repeat (first | (with_reducible first | exact HB.out | apply below_alloc | apply pw_below_drewN | apply below_drew1 | refine below_set ?_ (IsS197.ge HI0.out) | refine below_set ?_ GE798.out | refine below_set ?_ GE804.out) | exact HB.out)); rintro e w25 ⟨rfl, hi, hb, hk⟩; refine ⟨_, rfl, ?_⟩; replace BK798 := Aside0.mk (KeepBut.blk hk (g' := gb798) (o := .cells #[.int .i64 0, .int .i64 0, .int .i64 0] 68 (0, 0)) (bf BK798) NB798_0.out (by simp)); replace BK804 := Aside0.mk (KeepBut.blk hk (g' := gb804) (o := .cells #[.int .i64 t799, .int .i64 t800, .int .i64 t801] 68 (0, 0)) (by (with_reducible repeat (first | refine blk_drewN ?_ _ | refine blk_drew ?_ | refine blk_alloc ?_ _)); refine blk_put (cs := #[.int .i64 t799, .int .i64 t800, .int .i64 0]) ?_ 2 _ rfl; (with_reducible repeat (first | refine blk_drewN ?_ _ | refine blk_drew ?_ | refine blk_alloc ?_ _)); refine blk_put (cs := #[.int .i64 t799, .int .i64 0, .int .i64 0]) ?_ 1 _ rfl; (with_reducible repeat (first | refine blk_drewN ?_ _ | refine blk_drew ?_ | refine blk_alloc ?_ _)); refine blk_put (cs := #[.int .i64 0, .int .i64 0, .int .i64 0]) ?_ 0 _ rfl; (with_reducible repeat (first | refine blk_drewN ?_ _ | refine blk_drew ?_ | refine blk_alloc ?_ _)); exact BK804.out) NB804_0.out (by simp)); replace HK := Aside0.mk (KeepBut.trans (kp HK) hk (.inl rfl)); replace HB := Aside0.mk (hb); replace HI0 := Aside0.mk (hi); (try clear hb); (try clear hb2); (try clear hk); (try clear hi)) | ((with_reducible refine gate_callee (f := 159) rfl ?_); refine gL 17 Try.func159 #[.pointer (some ⟨g, 0, none⟩), .int .i64 7] ?_; (with_reducible refine (spec_l1Below.calls g s0_0 t806 t807 7 t811 t812 t813 w0 _ ?side1 ?side2 A18.out).mono ?_); (case side1 => repeat (first | (with_reducible first | exact HI0.out | apply IsS197.alloc | apply IsS197.drewN | apply IsS197.drew | apply IsS197.set_1 | apply IsS197.set_2 | refine IsS197.far ?_ NB0_798.out _ | refine IsS197.far ?_ NB0_804.out _) | exact HI0.out)); (case side2 => repeat (first | (with_reducible first | exact HB.out | apply below_alloc | apply pw_below_drewN | apply below_drew1 | refine below_set ?_ (IsS197.ge HI0.out) | refine below_set ?_ GE798.out | refine below_set ?_ GE804.out) | exact HB.out)); rintro e w26 ⟨rfl, hi, hb, hk⟩; refine ⟨_, rfl, ?_⟩; replace BK798 := Aside0.mk (KeepBut.blk hk (g' := gb798) (o := .cells #[.int .i64 0, .int .i64 0, .int .i64 0] 68 (0, 0)) (bk BK798) NB798_0.out (by simp)); replace BK804 := Aside0.mk (KeepBut.blk hk (g' := gb804) (o := .cells #[.int .i64 t799, .int .i64 t800, .int .i64 t801] 68 (0, 0)) (bk BK804) NB804_0.out (by simp)); replace HK := Aside0.mk (KeepBut.trans (kp HK) hk (.inl rfl)); replace HB := Aside0.mk (hb); replace HI0 := Aside0.mk (hi); (try clear hb); (try clear hb2); (try clear hk); (try clear hi); obtain ⟨hcz27_0, hcz27_1, hcz27_2, hfz27_0, hfz27_1, hfz27_2⟩ := c3 BK804; have hnb28 := NB798_0.out; have hnc28 := NB0_798.out; obtain ⟨hcz29_0, hcz29_1, hcz29_2, hfz29_0, hfz29_1, hfz29_2⟩ := c3 BK798))
   refine bodyPost_ret (results_cell_row rfl _ _ gb798 68 #[.int .i64 t799, .int .i64 (wrap64 (t811 - 1)), .int .i64 t801] (0, 0) _ rfl (by (with_reducible repeat (first | refine blk_drewN ?_ _ | refine blk_drew ?_ | refine blk_alloc ?_ _)); refine blk_put (cs := #[.int .i64 t799, .int .i64 (wrap64 (t811 - 1)), .int .i64 0]) ?_ 2 _ rfl; (with_reducible repeat (first | refine blk_drewN ?_ _ | refine blk_drew ?_ | refine blk_alloc ?_ _)); refine blk_put (cs := #[.int .i64 t799, .int .i64 0, .int .i64 0]) ?_ 1 _ rfl; (with_reducible repeat (first | refine blk_drewN ?_ _ | refine blk_drew ?_ | refine blk_alloc ?_ _)); refine blk_put (cs := #[.int .i64 0, .int .i64 0, .int .i64 0]) ?_ 0 _ rfl; (with_reducible repeat (first | refine blk_drewN ?_ _ | refine blk_drew ?_ | refine blk_alloc ?_ _)); refine blk_far ?_ NB798_804.out _; (with_reducible repeat (first | refine blk_drewN ?_ _ | refine blk_drew ?_ | refine blk_alloc ?_ _)); exact BK798.out) Try.underlying68 rfl (by kernel_rfl)) rfl ?_
   exact ⟨er, IsS197.go HI0, IsS197.tb HB, kp HK⟩
  ·rw [if_neg c17] at H
   have c17b0 : (t805 == 1) = false := beq_eq_false_iff_ne.mpr c17
   have c17b1 : (t805 != 1) = true := bne_iff_ne.mpr c17
   by_cases c30 : t805 = 2
   ·rw [if_pos c30] at H
    have c30b0 : (t805 == 2) = true := beq_iff_eq.mpr c30
    have c30b1 : (t805 != 2) = false := bne_eq_false_iff_eq.mpr c30
    clear c30
    replace H := Option.bind_eq_some_iff.mp H
    obtain ⟨⟨t814, t815, t816⟩, A310, H⟩ := H
    replace H : (some (t799, t800, wrap64 (t814 - 1), t815, t816)) = some (r1, r2, r3, r4, r5) := H
    have A31 := Aside0.mk A310
    clear A310
    simp only [Option.some.injEq, Prod.mk.injEq] at H
    obtain ⟨rfl, rfl, rfl, rfl, rfl⟩ := H
    go_enter Try.func107, Try.ntmps107
    go_wp2_with (first | ((with_reducible refine gate_dst (N := 2) rfl ?_); refine bx (N := 2) (cs := #[.int .i64 0, .int .i64 0, .int .i64 0]) (t := 68) ?_; intro gb798 hg w32 hbox hb; replace HB := Aside0.mk (below_step (IsS197.tb HB) hb); have BK798 := Aside0.mk (hbox); have GW798 := Aside0.mk ((by rw [hg]; exact (keep_size (w := w) (g := g) (row := none) (kp HK)) : w.heap.size ≤ gb798)); have GE798 := Aside0.mk ((Nat.le_trans HW0.out (by rw [hg]; exact (keep_size (w := w) (g := g) (row := none) (kp HK)) : w.heap.size ≤ gb798) : w0.heap.size ≤ gb798)); replace HK := Aside0.mk (KeepBut.trans (kp HK) (KeepBut.of_below hb g none) (.inl rfl)); have NB0_798 := Aside0.mk ((by rw [hg]; exact Nat.ne_of_lt (IsS197.lt (show IsS197 w0 _ g s0_0 s0_1 s0_2 from IsS197.go HI0)) : g ≠ gb798)); have NB798_0 := Aside0.mk ((by rw [hg]; exact Nat.ne_of_gt (IsS197.lt (show IsS197 w0 _ g s0_0 s0_1 s0_2 from IsS197.go HI0)) : gb798 ≠ g)); replace HI0 := Aside0.mk (IsS197.below (IsS197.go HI0) hb); clear hb hbox hg) | ((with_reducible refine gate_callee (f := 113) rfl ?_); refine gL 5 Try.func113 #[.pointer (some ⟨g, 0, none⟩)] ?_; (with_reducible refine (spec_l4DrawRight.calls k g s0_0 s0_1 s0_2 t799 t800 t801 t802 t803 w0 _ ?side1 ?side2 A2.out).mono ?_); (case side1 => repeat (first | (with_reducible first | exact HI0.out | apply IsS197.alloc | apply IsS197.drewN | apply IsS197.drew | apply IsS197.set_1 | apply IsS197.set_2 | refine IsS197.far ?_ NB0_798.out _) | exact HI0.out)); (case side2 => repeat (first | (with_reducible first | exact HB.out | apply below_alloc | apply pw_below_drewN | apply below_drew1 | refine below_set ?_ (IsS197.ge HI0.out) | refine below_set ?_ GE798.out) | exact HB.out)); rintro e w33 ⟨rfl, hi, hb, hk⟩; refine ⟨_, rfl, ?_⟩; replace BK798 := Aside0.mk (KeepBut.blk hk (g' := gb798) (o := .cells #[.int .i64 0, .int .i64 0, .int .i64 0] 68 (0, 0)) (bk BK798) NB798_0.out (by simp)); replace HK := Aside0.mk (KeepBut.trans (kp HK) hk (.inl rfl)); replace HB := Aside0.mk (hb); replace HI0 := Aside0.mk (hi); (try clear hb); (try clear hb2); (try clear hk); (try clear hi)) | ((with_reducible refine gate_dst (N := 3) rfl ?_); refine bx (N := 3) (cs := #[.int .i64 0, .int .i64 0, .int .i64 0]) (t := 68) ?_; intro gb804 hg w34 hbox hb; replace HB := Aside0.mk (below_step (IsS197.tb HB) hb); have BK804 := Aside0.mk (hbox); have GW804 := Aside0.mk ((by rw [hg]; exact (keep_size (w := w) (g := g) (row := none) (kp HK)) : w.heap.size ≤ gb804)); have GE804 := Aside0.mk ((Nat.le_trans HW0.out (by rw [hg]; exact (keep_size (w := w) (g := g) (row := none) (kp HK)) : w.heap.size ≤ gb804) : w0.heap.size ≤ gb804)); replace HK := Aside0.mk (KeepBut.trans (kp HK) (KeepBut.of_below hb g none) (.inl rfl)); have NB798_804 := Aside0.mk (nl_ hg BK798); have NB804_798 := Aside0.mk (ng_ hg BK798); replace BK798 := bb BK798 hb; have NB0_804 := Aside0.mk ((by rw [hg]; exact Nat.ne_of_lt (IsS197.lt (show IsS197 w0 _ g s0_0 t802 t803 from IsS197.go HI0)) : g ≠ gb804)); have NB804_0 := Aside0.mk ((by rw [hg]; exact Nat.ne_of_gt (IsS197.lt (show IsS197 w0 _ g s0_0 t802 t803 from IsS197.go HI0)) : gb804 ≠ g)); replace HI0 := Aside0.mk (IsS197.below (IsS197.go HI0) hb); clear hb hbox hg; have hnb35 := NB804_798.out; have hnc35 := NB798_804.out; have hnb36 := NB804_0.out; have hnc36 := NB0_804.out; obtain ⟨hcz37_0, hcz37_1, hcz37_2, hfz37_0, hfz37_1, hfz37_2⟩ := c3 BK804) | ((with_reducible refine gate_callee (f := 159) rfl ?_); refine gL 7 Try.func159 #[.pointer (some ⟨g, 0, none⟩), .int .i64 10] ?_; (with_reducible refine (spec_l1Below.calls g s0_0 t802 t803 10 t805 t806 t807 w0 _ ?side1 ?side2 A3.out).mono ?_); (case side1 => repeat (first | (with_reducible first | exact HI0.out | apply IsS197.alloc | apply IsS197.drewN | apply IsS197.drew | apply IsS197.set_1 | apply IsS197.set_2 | refine IsS197.far ?_ NB0_798.out _ | refine IsS197.far ?_ NB0_804.out _) | exact HI0.out)); (case side2 => repeat (first | (with_reducible first | exact HB.out | apply below_alloc | apply pw_below_drewN | apply below_drew1 | refine below_set ?_ (IsS197.ge HI0.out) | refine below_set ?_ GE798.out | refine below_set ?_ GE804.out) | exact HB.out)); rintro e w38 ⟨rfl, hi, hb, hk⟩; refine ⟨_, rfl, ?_⟩; replace BK798 := Aside0.mk (KeepBut.blk hk (g' := gb798) (o := .cells #[.int .i64 0, .int .i64 0, .int .i64 0] 68 (0, 0)) (bf BK798) NB798_0.out (by simp)); replace BK804 := Aside0.mk (KeepBut.blk hk (g' := gb804) (o := .cells #[.int .i64 t799, .int .i64 t800, .int .i64 t801] 68 (0, 0)) (by (with_reducible repeat (first | refine blk_drewN ?_ _ | refine blk_drew ?_ | refine blk_alloc ?_ _)); refine blk_put (cs := #[.int .i64 t799, .int .i64 t800, .int .i64 0]) ?_ 2 _ rfl; (with_reducible repeat (first | refine blk_drewN ?_ _ | refine blk_drew ?_ | refine blk_alloc ?_ _)); refine blk_put (cs := #[.int .i64 t799, .int .i64 0, .int .i64 0]) ?_ 1 _ rfl; (with_reducible repeat (first | refine blk_drewN ?_ _ | refine blk_drew ?_ | refine blk_alloc ?_ _)); refine blk_put (cs := #[.int .i64 0, .int .i64 0, .int .i64 0]) ?_ 0 _ rfl; (with_reducible repeat (first | refine blk_drewN ?_ _ | refine blk_drew ?_ | refine blk_alloc ?_ _)); exact BK804.out) NB804_0.out (by simp)); replace HK := Aside0.mk (KeepBut.trans (kp HK) hk (.inl rfl)); replace HB := Aside0.mk (hb); replace HI0 := Aside0.mk (hi); (try clear hb); (try clear hb2); (try clear hk); (try clear hi)) | ((with_reducible refine gate_callee (f := 159) rfl ?_); refine gL 23 Try.func159 #[.pointer (some ⟨g, 0, none⟩), .int .i64 9] ?_; (with_reducible refine (spec_l1Below.calls g s0_0 t806 t807 9 t814 t815 t816 w0 _ ?side1 ?side2 A31.out).mono ?_); (case side1 => repeat (first | (with_reducible first | exact HI0.out | apply IsS197.alloc | apply IsS197.drewN | apply IsS197.drew | apply IsS197.set_1 | apply IsS197.set_2 | refine IsS197.far ?_ NB0_798.out _ | refine IsS197.far ?_ NB0_804.out _) | exact HI0.out)); (case side2 => repeat (first | (with_reducible first | exact HB.out | apply below_alloc | apply pw_below_drewN | apply below_drew1 | refine below_set ?_ (IsS197.ge HI0.out) | refine below_set ?_ GE798.out | refine below_set ?_ GE804.out) | exact HB.out)); rintro e w39 ⟨rfl, hi, hb, hk⟩; refine ⟨_, rfl, ?_⟩; replace BK798 := Aside0.mk (KeepBut.blk hk (g' := gb798) (o := .cells #[.int .i64 0, .int .i64 0, .int .i64 0] 68 (0, 0)) (bk BK798) NB798_0.out (by simp)); replace BK804 := Aside0.mk (KeepBut.blk hk (g' := gb804) (o := .cells #[.int .i64 t799, .int .i64 t800, .int .i64 t801] 68 (0, 0)) (bk BK804) NB804_0.out (by simp)); replace HK := Aside0.mk (KeepBut.trans (kp HK) hk (.inl rfl)); replace HB := Aside0.mk (hb); replace HI0 := Aside0.mk (hi); (try clear hb); (try clear hb2); (try clear hk); (try clear hi); obtain ⟨hcz40_0, hcz40_1, hcz40_2, hfz40_0, hfz40_1, hfz40_2⟩ := c3 BK804; have hnb41 := NB798_0.out; have hnc41 := NB0_798.out; obtain ⟨hcz42_0, hcz42_1, hcz42_2, hfz42_0, hfz42_1, hfz42_2⟩ := c3 BK798))
    refine bodyPost_ret (results_cell_row rfl _ _ gb798 68 #[.int .i64 t799, .int .i64 t800, .int .i64 (wrap64 (t814 - 1))] (0, 0) _ rfl (by (with_reducible repeat (first | refine blk_drewN ?_ _ | refine blk_drew ?_ | refine blk_alloc ?_ _)); refine blk_put (cs := #[.int .i64 t799, .int .i64 t800, .int .i64 0]) ?_ 2 _ rfl; (with_reducible repeat (first | refine blk_drewN ?_ _ | refine blk_drew ?_ | refine blk_alloc ?_ _)); refine blk_put (cs := #[.int .i64 t799, .int .i64 0, .int .i64 0]) ?_ 1 _ rfl; (with_reducible repeat (first | refine blk_drewN ?_ _ | refine blk_drew ?_ | refine blk_alloc ?_ _)); refine blk_put (cs := #[.int .i64 0, .int .i64 0, .int .i64 0]) ?_ 0 _ rfl; (with_reducible repeat (first | refine blk_drewN ?_ _ | refine blk_drew ?_ | refine blk_alloc ?_ _)); refine blk_far ?_ NB798_804.out _; (with_reducible repeat (first | refine blk_drewN ?_ _ | refine blk_drew ?_ | refine blk_alloc ?_ _)); exact BK798.out) Try.underlying68 rfl (by kernel_rfl)) rfl ?_
    exact ⟨er, IsS197.go HI0, IsS197.tb HB, kp HK⟩
   ·rw [if_neg c30] at H
    have c30b0 : (t805 == 2) = false := beq_eq_false_iff_ne.mpr c30
    have c30b1 : (t805 != 2) = true := bne_iff_ne.mpr c30
    simp only [Option.some.injEq, Prod.mk.injEq] at H
    obtain ⟨rfl, rfl, rfl, rfl, rfl⟩ := H
    go_enter Try.func107, Try.ntmps107
    go_wp2_with (first | ((with_reducible refine gate_dst (N := 2) rfl ?_); refine bx (N := 2) (cs := #[.int .i64 0, .int .i64 0, .int .i64 0]) (t := 68) ?_; intro gb798 hg w43 hbox hb; replace HB := Aside0.mk (below_step (IsS197.tb HB) hb); have BK798 := Aside0.mk (hbox); have GW798 := Aside0.mk ((by rw [hg]; exact (keep_size (w := w) (g := g) (row := none) (kp HK)) : w.heap.size ≤ gb798)); have GE798 := Aside0.mk ((Nat.le_trans HW0.out (by rw [hg]; exact (keep_size (w := w) (g := g) (row := none) (kp HK)) : w.heap.size ≤ gb798) : w0.heap.size ≤ gb798)); replace HK := Aside0.mk (KeepBut.trans (kp HK) (KeepBut.of_below hb g none) (.inl rfl)); have NB0_798 := Aside0.mk ((by rw [hg]; exact Nat.ne_of_lt (IsS197.lt (show IsS197 w0 _ g s0_0 s0_1 s0_2 from IsS197.go HI0)) : g ≠ gb798)); have NB798_0 := Aside0.mk ((by rw [hg]; exact Nat.ne_of_gt (IsS197.lt (show IsS197 w0 _ g s0_0 s0_1 s0_2 from IsS197.go HI0)) : gb798 ≠ g)); replace HI0 := Aside0.mk (IsS197.below (IsS197.go HI0) hb); clear hb hbox hg) | ((with_reducible refine gate_callee (f := 113) rfl ?_); refine gL 5 Try.func113 #[.pointer (some ⟨g, 0, none⟩)] ?_; (with_reducible refine (spec_l4DrawRight.calls k g s0_0 s0_1 s0_2 t799 t800 t801 t802 t803 w0 _ ?side1 ?side2 A2.out).mono ?_); (case side1 => repeat (first | (with_reducible first | exact HI0.out | apply IsS197.alloc | apply IsS197.drewN | apply IsS197.drew | apply IsS197.set_1 | apply IsS197.set_2 | refine IsS197.far ?_ NB0_798.out _) | exact HI0.out)); (case side2 => repeat (first | (with_reducible first | exact HB.out | apply below_alloc | apply pw_below_drewN | apply below_drew1 | refine below_set ?_ (IsS197.ge HI0.out) | refine below_set ?_ GE798.out) | exact HB.out)); rintro e w44 ⟨rfl, hi, hb, hk⟩; refine ⟨_, rfl, ?_⟩; replace BK798 := Aside0.mk (KeepBut.blk hk (g' := gb798) (o := .cells #[.int .i64 0, .int .i64 0, .int .i64 0] 68 (0, 0)) (bk BK798) NB798_0.out (by simp)); replace HK := Aside0.mk (KeepBut.trans (kp HK) hk (.inl rfl)); replace HB := Aside0.mk (hb); replace HI0 := Aside0.mk (hi); (try clear hb); (try clear hb2); (try clear hk); (try clear hi)) | ((with_reducible refine gate_dst (N := 3) rfl ?_); refine bx (N := 3) (cs := #[.int .i64 0, .int .i64 0, .int .i64 0]) (t := 68) ?_; intro gb804 hg w45 hbox hb; replace HB := Aside0.mk (below_step (IsS197.tb HB) hb); have BK804 := Aside0.mk (hbox); have GW804 := Aside0.mk ((by rw [hg]; exact (keep_size (w := w) (g := g) (row := none) (kp HK)) : w.heap.size ≤ gb804)); have GE804 := Aside0.mk ((Nat.le_trans HW0.out (by rw [hg]; exact (keep_size (w := w) (g := g) (row := none) (kp HK)) : w.heap.size ≤ gb804) : w0.heap.size ≤ gb804)); replace HK := Aside0.mk (KeepBut.trans (kp HK) (KeepBut.of_below hb g none) (.inl rfl)); have NB798_804 := Aside0.mk (nl_ hg BK798); have NB804_798 := Aside0.mk (ng_ hg BK798); replace BK798 := bb BK798 hb; have NB0_804 := Aside0.mk ((by rw [hg]; exact Nat.ne_of_lt (IsS197.lt (show IsS197 w0 _ g s0_0 t802 t803 from IsS197.go HI0)) : g ≠ gb804)); have NB804_0 := Aside0.mk ((by rw [hg]; exact Nat.ne_of_gt (IsS197.lt (show IsS197 w0 _ g s0_0 t802 t803 from IsS197.go HI0)) : gb804 ≠ g)); replace HI0 := Aside0.mk (IsS197.below (IsS197.go HI0) hb); clear hb hbox hg; have hnb46 := NB804_798.out; have hnc46 := NB798_804.out; have hnb47 := NB804_0.out; have hnc47 := NB0_804.out; obtain ⟨hcz48_0, hcz48_1, hcz48_2, hfz48_0, hfz48_1, hfz48_2⟩ := c3 BK804) | ((with_reducible refine gate_callee (f := 159) rfl ?_); refine gL 7 Try.func159 #[.pointer (some ⟨g, 0, none⟩), .int .i64 10] ?_; (with_reducible refine (spec_l1Below.calls g s0_0 t802 t803 10 t805 t806 t807 w0 _ ?side1 ?side2 A3.out).mono ?_); (case side1 => repeat (first | (with_reducible first | exact HI0.out | apply IsS197.alloc | apply IsS197.drewN | apply IsS197.drew | apply IsS197.set_1 | apply IsS197.set_2 | refine IsS197.far ?_ NB0_798.out _ | refine IsS197.far ?_ NB0_804.out _) | exact HI0.out)); (case side2 => repeat (first | (with_reducible first | exact HB.out | apply below_alloc | apply pw_below_drewN | apply below_drew1 | refine below_set ?_ (IsS197.ge HI0.out) | refine below_set ?_ GE798.out | refine below_set ?_ GE804.out) | exact HB.out)); rintro e w49 ⟨rfl, hi, hb, hk⟩; refine ⟨_, rfl, ?_⟩; replace BK798 := Aside0.mk (KeepBut.blk hk (g' := gb798) (o := .cells #[.int .i64 0, .int .i64 0, .int .i64 0] 68 (0, 0)) (bf BK798) NB798_0.out (by simp)); replace BK804 := Aside0.mk (KeepBut.blk hk (g' := gb804) (o := .cells #[.int .i64 t799, .int .i64 t800, .int .i64 t801] 68 (0, 0)) (by (with_reducible repeat (first | refine blk_drewN ?_ _ | refine blk_drew ?_ | refine blk_alloc ?_ _)); refine blk_put (cs := #[.int .i64 t799, .int .i64 t800, .int .i64 0]) ?_ 2 _ rfl; (with_reducible repeat (first | refine blk_drewN ?_ _ | refine blk_drew ?_ | refine blk_alloc ?_ _)); refine blk_put (cs := #[.int .i64 t799, .int .i64 0, .int .i64 0]) ?_ 1 _ rfl; (with_reducible repeat (first | refine blk_drewN ?_ _ | refine blk_drew ?_ | refine blk_alloc ?_ _)); refine blk_put (cs := #[.int .i64 0, .int .i64 0, .int .i64 0]) ?_ 0 _ rfl; (with_reducible repeat (first | refine blk_drewN ?_ _ | refine blk_drew ?_ | refine blk_alloc ?_ _)); exact BK804.out) NB804_0.out (by simp)); replace HK := Aside0.mk (KeepBut.trans (kp HK) hk (.inl rfl)); replace HB := Aside0.mk (hb); replace HI0 := Aside0.mk (hi); (try clear hb); (try clear hb2); (try clear hk); (try clear hi); obtain ⟨hcz50_0, hcz50_1, hcz50_2, hfz50_0, hfz50_1, hfz50_2⟩ := c3 BK804; have hnb51 := NB798_0.out; have hnc51 := NB0_798.out; obtain ⟨hcz52_0, hcz52_1, hcz52_2, hfz52_0, hfz52_1, hfz52_2⟩ := c3 BK798))
    refine bodyPost_ret (results_cell_row rfl _ _ gb798 68 #[.int .i64 t799, .int .i64 t800, .int .i64 t801] (0, 0) _ rfl (by (with_reducible repeat (first | refine blk_drewN ?_ _ | refine blk_drew ?_ | refine blk_alloc ?_ _)); refine blk_put (cs := #[.int .i64 t799, .int .i64 t800, .int .i64 0]) ?_ 2 _ rfl; (with_reducible repeat (first | refine blk_drewN ?_ _ | refine blk_drew ?_ | refine blk_alloc ?_ _)); refine blk_put (cs := #[.int .i64 t799, .int .i64 0, .int .i64 0]) ?_ 1 _ rfl; (with_reducible repeat (first | refine blk_drewN ?_ _ | refine blk_drew ?_ | refine blk_alloc ?_ _)); refine blk_put (cs := #[.int .i64 0, .int .i64 0, .int .i64 0]) ?_ 0 _ rfl; (with_reducible repeat (first | refine blk_drewN ?_ _ | refine blk_drew ?_ | refine blk_alloc ?_ _)); exact BK798.out) Try.underlying68 rfl (by kernel_rfl)) rfl ?_
    exact ⟨er, IsS197.go HI0, IsS197.tb HB, kp HK⟩
def spec_l1Once.f (s0_0 : List Int) (s0_1 : Int) (s0_2 : Int) (a1 : Int) : Option (Bool × Int × Int) := (spec_l1Below.f s0_0 s0_1 s0_2 a1).bind fun bt817 => (some ((bt817.1 == 0), bt817.2.1, bt817.2.2))
set_option maxHeartbeats 8000000 in
set_option maxRecDepth 100000 in
theorem spec_l1Once.calls (g : Nat) (s0_0 : List Int) (s0_1 : Int) (s0_2 : Int) (a1 : Int) (r1 : Bool) (r2 : Int) (r3 : Int) (w0 w : World) (hI : IsS197 w0 w g s0_0 s0_1 s0_2) (hB : Below w0.heap.size w0 w) (h : spec_l1Once.f s0_0 s0_1 s0_2 a1 = some (r1, r2, r3)) :
  Calls Try.prog 114 #[.pointer (some ⟨g, 0, none⟩), .int .i64 a1] w fun e w' => e = .returned (.bool r1) ∧ IsS197 w0 w' g s0_0 r2 r3 ∧ Below w0.heap.size w0 w' ∧ KeepBut w w' g none := by
 have HI0 := Aside0.mk hI
 have HK := Aside0.mk (KeepBut.refl w g none)
 have HL := Aside0.mk hB.size
 clear hI
 have HW0 := Aside0.mk hB.size
 have HB := Aside0.mk hB
 clear hB
 have H : ((spec_l1Below.f s0_0 s0_1 s0_2 a1).bind fun bt817 => (some ((bt817.1 == 0), bt817.2.1, bt817.2.2))) = some (r1, r2, r3) := h
 clear h
 replace H := Option.bind_eq_some_iff.mp H
 obtain ⟨⟨t817, t818, t819⟩, A30, H⟩ := H
 replace H : (some ((t817 == 0), t818, t819)) = some (r1, r2, r3) := H
 have A3 := Aside0.mk A30
 clear A30
 simp only [Option.some.injEq, Prod.mk.injEq] at H
 obtain ⟨rfl, rfl, rfl⟩ := H
 go_enter Try.func114, Try.ntmps114
 go_wp2_with (first | ((with_reducible refine gate_callee (f := 159) rfl ?_); refine gL 7 Try.func159 #[.pointer (some ⟨g, 0, none⟩), .int .i64 a1] ?_; (with_reducible refine (spec_l1Below.calls g s0_0 s0_1 s0_2 a1 t817 t818 t819 w0 _ ?side1 ?side2 A3.out).mono ?_); (case side1 => repeat (first | (with_reducible first | exact HI0.out | apply IsS197.alloc | apply IsS197.drewN | apply IsS197.drew | apply IsS197.set_1 | apply IsS197.set_2) | exact HI0.out)); (case side2 => repeat (first | (with_reducible first | exact HB.out | apply below_alloc | apply pw_below_drewN | apply below_drew1 | refine below_set ?_ (IsS197.ge HI0.out)) | exact HB.out)); rintro e w4 ⟨rfl, hi, hb, hk⟩; refine ⟨_, rfl, ?_⟩; replace HK := Aside0.mk (KeepBut.trans (kp HK) hk (.inl rfl)); replace HB := Aside0.mk (hb); replace HI0 := Aside0.mk (hi); (try clear hb); (try clear hb2); (try clear hk); (try clear hi)))
 go_ret
 exact ⟨er, IsS197.go HI0, IsS197.tb HB, kp HK⟩
end Go.Proofs.Ytopikhjcbcpiaaa.Q
