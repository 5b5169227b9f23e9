/- Part 2 of the steps by which the law is shown: what each function of the program, of the reference and of the law computes. No condition. -/
import Derived.Lib.SliceRun
import Derived.Test.YtopikhjcbcpiaaaAlw1
namespace Go.Proofs.Ytopikhjcbcpiaaa.Q
open Go.RowKit Go.Proofs.YtopikhjcbcpiaaaW.PrintWords Go.Proofs.YtopikhjcbcpiaaaW.PrintLast Go.Proofs.YtopikhjcbcpiaaaW.PrintMore
attribute [local go_sem] max2_int min2_int max_two min_two max_three min_three max_four min_four   -- for this text's walks alone
set_option linter.unusedVariables false
set_option linter.unusedSimpArgs false
mutual
def spec_After.j0 : Nat → Bool → List Int → Int → Int → Int → Int → List Int → Int → Option (List Int × Int)
 | 0, _, _, _, _, _, _, _, _ => none
 | k + 1, x19, x525000, x525001, x526000, x526001, x526002, x533000, x533001 => if x19 = true then (some (x533000, x533001)) else (if x526000 = 1 then (spec_After.j1 k x526000 (x526000 == 1) x525000 x525001 x526000 x526001 x526002 x533000 x533001) else (spec_After.j1 k x526000 (x526000 == 2) x525000 x525001 x526000 x526001 x526002 x533000 x533001))
def spec_After.j1 : Nat → Int → Bool → List Int → Int → Int → Int → Int → List Int → Int → Option (List Int × Int)
 | 0, _, _, _, _, _, _, _, _, _ => none
 | k + 1, x22, x23, x525000, x525001, x526000, x526001, x526002, x533000, x533001 => if x23 = true then (if 0 ≤ x526001 then (if x526001 < (x533000.length : Int) then (some ((x533000.set (x526001 : Int).toNat x526002), x533001)) else (none)) else (none)) else (if x22 = 3 then (if 0 ≤ x526001 then (if x526001 < (x533000.length : Int) then (some ((x533000.set (x526001 : Int).toNat 0), x533001)) else (none)) else (none)) else (if x22 = 8 then (some (x533000, wrap64 (x525001 + 1))) else (if x22 = 9 then (some (x533000, wrap64 (x525001 + 1))) else (some (x533000, x533001)))))
end
def spec_After.f (k : Nat) (l0_0 : List Int) (a0_1 : Int) (a1_0 : Int) (a1_1 : Int) (a1_2 : Int) (a2_0 : Int) (l2_1 : List Int) : Option (List Int × Int) := (spec_l3Copy.f l0_0 a0_1).bind fun bt528 => ((spec_Allowed.f k l0_0 a0_1 a1_0 a1_1 a1_2 a2_0 l2_1).bind fun t533 => (if t533 = true then (spec_After.j0 k (a2_0 != 0) l0_0 a0_1 a1_0 a1_1 a1_2 bt528.1 bt528.2) else (spec_After.j0 k true l0_0 a0_1 a1_0 a1_1 a1_2 bt528.1 bt528.2)))
theorem spec_After.mono_l : ∀ k, (∀ y0 y1 y2 y3 y4 y5 y6 y7, LeO (spec_After.j0 k y0 y1 y2 y3 y4 y5 y6 y7) (spec_After.j0 (k + 1) y0 y1 y2 y3 y4 y5 y6 y7)) ∧ (∀ y0 y1 y2 y3 y4 y5 y6 y7 y8, LeO (spec_After.j1 k y0 y1 y2 y3 y4 y5 y6 y7 y8) (spec_After.j1 (k + 1) y0 y1 y2 y3 y4 y5 y6 y7 y8))
 | 0 => ⟨fun _ _ _ _ _ _ _ _ r h => by simp [spec_After.j0] at h, fun _ _ _ _ _ _ _ _ _ r h => by simp [spec_After.j1] at h⟩
 | k + 1 => by
  obtain ⟨ih0, ih1⟩ := spec_After.mono_l k
  refine ⟨?_, ?_⟩
  ·intro y0 y1 y2 y3 y4 y5 y6 y7
   unfold spec_After.j0
   repeat' first
   | (with_reducible exact ih0 _ _ _ _ _ _ _ _)
   | (with_reducible exact ih1 _ _ _ _ _ _ _ _ _)
   | (with_reducible exact spec_Allowed.mono _ _ _ _ _ _ _ _)
   | (with_reducible exact LeO.refl _)
   | (with_reducible exact LeO.none _)
   | (with_reducible refine LeO.ite ?_ ?_)
   | (with_reducible refine LeO.bind ?_ (fun _ => ?_))
   | exact ih0 _ _ _ _ _ _ _ _
   | exact ih1 _ _ _ _ _ _ _ _ _
   | exact spec_Allowed.mono _ _ _ _ _ _ _ _
   | exact LeO.none _
   | refine LeO.ite ?_ ?_
   | refine LeO.bind ?_ (fun _ => ?_)
  ·intro y0 y1 y2 y3 y4 y5 y6 y7 y8
   unfold spec_After.j1
   repeat' first
   | (with_reducible exact ih0 _ _ _ _ _ _ _ _)
   | (with_reducible exact ih1 _ _ _ _ _ _ _ _ _)
   | (with_reducible exact spec_Allowed.mono _ _ _ _ _ _ _ _)
   | (with_reducible exact LeO.refl _)
   | (with_reducible exact LeO.none _)
   | (with_reducible refine LeO.ite ?_ ?_)
   | (with_reducible refine LeO.bind ?_ (fun _ => ?_))
   | exact ih0 _ _ _ _ _ _ _ _
   | exact ih1 _ _ _ _ _ _ _ _ _
   | exact spec_Allowed.mono _ _ _ _ _ _ _ _
   | exact LeO.none _
   | refine LeO.ite ?_ ?_
   | refine LeO.bind ?_ (fun _ => ?_)
theorem spec_After.mono : ∀ a0 a1 a2 a3 a4 a5 a6 k, LeO (spec_After.f k a0 a1 a2 a3 a4 a5 a6) (spec_After.f (k + 1) a0 a1 a2 a3 a4 a5 a6) := by
 intro a0 a1 a2 a3 a4 a5 a6 k
 obtain ⟨ih0, ih1⟩ := spec_After.mono_l k
 unfold spec_After.f
 repeat' first
   | (with_reducible exact ih0 _ _ _ _ _ _ _ _)
   | (with_reducible exact ih1 _ _ _ _ _ _ _ _ _)
   | (with_reducible exact spec_Allowed.mono _ _ _ _ _ _ _ _)
   | (with_reducible exact LeO.refl _)
   | (with_reducible exact LeO.none _)
   | (with_reducible refine LeO.ite ?_ ?_)
   | (with_reducible refine LeO.bind ?_ (fun _ => ?_))
   | exact ih0 _ _ _ _ _ _ _ _
   | exact ih1 _ _ _ _ _ _ _ _ _
   | exact spec_Allowed.mono _ _ _ _ _ _ _ _
   | exact LeO.none _
   | refine LeO.ite ?_ ?_
   | refine LeO.bind ?_ (fun _ => ?_)
set_option maxHeartbeats 8000000 in
set_option maxRecDepth 100000 in
theorem spec_After.calls (k : Nat) (A0_0 : Option Addr) (c0_0 : Nat) (l0_0 : List Int) (a0_1 : Int) (a1_0 : Int) (a1_1 : Int) (a1_2 : Int) (a2_0 : Int) (A2_1 : Option Addr) (c2_1 : Nat) (l2_1 : List Int) (r1 : List Int) (r2 : Int) (w : World) (hr0_0 : Kd.C (Kd.int .i64) w A0_0 l0_0.length l0_0) (hc0_0 : l0_0.length ≤ c0_0) (hr2_1 : Kd.C (Kd.int .i64) w A2_1 l2_1.length l2_1) (hc2_1 : l2_1.length ≤ c2_1) (h : spec_After.f k l0_0 a0_1 a1_0 a1_1 a1_2 a2_0 l2_1 = some (r1, r2)) :
  Calls Try.prog 34 #[.agg #[.slice A0_0 l0_0.length c0_0, .int .i64 a0_1], .agg #[.int .i64 a1_0, .int .i64 a1_1, .int .i64 a1_2], .agg #[.int .i64 a2_0, .slice A2_1 l2_1.length c2_1]] w fun e w' => ∃ v0_ : Value, e = .returned (.agg #[v0_, .int .i64 r2]) ∧ Kd.R (Kd.int .i64) 3 w' w.heap.size (fun _ => True) v0_ r1 ∧ Below w.heap.size w w' := by
 have hu65 := Try.underlying65
 have hu68 := Try.underlying68
 have hu70 := Try.underlying70
 have HR0_0 := Aside0.mk hr0_0
 have HC0_0 := Aside0.mk hc0_0
 clear hr0_0 hc0_0
 have HR2_1 := Aside0.mk hr2_1
 have HC2_1 := Aside0.mk hc2_1
 clear hr2_1 hc2_1
 have HB := Aside0.mk (Below.refl w.heap.size w)
 have H : ((spec_l3Copy.f l0_0 a0_1).bind fun bt528 => ((spec_Allowed.f k l0_0 a0_1 a1_0 a1_1 a1_2 a2_0 l2_1).bind fun t533 => (if t533 = true then (spec_After.j0 k (a2_0 != 0) l0_0 a0_1 a1_0 a1_1 a1_2 bt528.1 bt528.2) else (spec_After.j0 k true l0_0 a0_1 a1_0 a1_1 a1_2 bt528.1 bt528.2)))) = some (r1, r2) := h
 clear h
 replace H := Option.bind_eq_some_iff.mp H
 obtain ⟨⟨t528, t531⟩, A40, H⟩ := H
 replace H : ((spec_Allowed.f k l0_0 a0_1 a1_0 a1_1 a1_2 a2_0 l2_1).bind fun t533 => (if t533 = true then (spec_After.j0 k (a2_0 != 0) l0_0 a0_1 a1_0 a1_1 a1_2 t528 t531) else (spec_After.j0 k true l0_0 a0_1 a1_0 a1_1 a1_2 t528 t531))) = some (r1, r2) := H
 have A4 := Aside0.mk A40
 clear A40
 have HC5 := Aside0.mk H
 clear H
 go_enter Try.func34, Try.ntmps34
 go_upto_region 2 with (first | ((with_reducible refine gate_dst (N := 3) rfl ?_); refine bx (N := 3) (cs := #[.slice A0_0 l0_0.length c0_0, .int .i64 a0_1]) (t := 65) ?_; intro gb524 hg w6 hbox hb; have BK524 := Aside0.mk (hbox); have GW524 := Aside0.mk (ge_ hg HB); have GE524 := Aside0.mk (ge_ hg HB); replace HB := bs HB hb; clear hb hbox hg) | ((with_reducible refine gate_dst (N := 4) rfl ?_); refine bx (N := 4) (cs := #[.int .i64 a1_0, .int .i64 a1_1, .int .i64 a1_2]) (t := 68) ?_; intro gb525 hg w7 hbox hb; have BK525 := Aside0.mk (hbox); have GW525 := Aside0.mk (ge_ hg HB); have GE525 := Aside0.mk (ge_ hg HB); replace HB := bs HB hb; have NB524_525 := Aside0.mk (nl_ hg BK524); have NB525_524 := Aside0.mk (ng_ hg BK524); replace BK524 := bb BK524 hb; clear hb hbox hg) | ((with_reducible refine gate_dst (N := 5) rfl ?_); refine bx (N := 5) (cs := #[.int .i64 a2_0, .slice A2_1 l2_1.length c2_1]) (t := 70) ?_; intro gb526 hg w8 hbox hb; have BK526 := Aside0.mk (hbox); have GW526 := Aside0.mk (ge_ hg HB); have GE526 := Aside0.mk (ge_ hg HB); replace HB := bs HB hb; have NB524_526 := Aside0.mk (nl_ hg BK524); have NB526_524 := Aside0.mk (ng_ hg BK524); replace BK524 := bb BK524 hb; have NB525_526 := Aside0.mk (nl_ hg BK525); have NB526_525 := Aside0.mk (ng_ hg BK525); replace BK525 := bb BK525 hb; clear hb hbox hg) | ((with_reducible refine gate_dst (N := 6) rfl ?_); refine bx (N := 6) (cs := #[.slice none 0 0, .int .i64 0]) (t := 65) ?_; intro gb527 hg w9 hbox hb; have BK527 := Aside0.mk (hbox); have GW527 := Aside0.mk (ge_ hg HB); have GE527 := Aside0.mk (ge_ hg HB); replace HB := bs HB hb; have NB524_527 := Aside0.mk (nl_ hg BK524); have NB527_524 := Aside0.mk (ng_ hg BK524); replace BK524 := bb BK524 hb; have NB525_527 := Aside0.mk (nl_ hg BK525); have NB527_525 := Aside0.mk (ng_ hg BK525); replace BK525 := bb BK525 hb; have NB526_527 := Aside0.mk (nl_ hg BK526); have NB527_526 := Aside0.mk (ng_ hg BK526); replace BK526 := bb BK526 hb; clear hb hbox hg; have hnb10 := NB524_525.out; have hnc10 := NB525_524.out; have hnb11 := NB524_526.out; have hnc11 := NB526_524.out; have hnb12 := NB524_527.out; have hnc12 := NB527_524.out; obtain ⟨hcz13_0, hcz13_1, hfz13_0, hfz13_1⟩ := c2 BK524) | ((with_reducible refine gate_callee (f := 103) rfl ?_); refine gL 9 Try.func103 #[.agg #[.slice A0_0 l0_0.length c0_0, .int .i64 a0_1]] ?_; (with_reducible refine (spec_l3Copy.calls _ _ l0_0 a0_1 t528 t531 _ ?side1 ?side2 A4.out).mono ?_); (case side1 => exact kc HR0_0 HB); (case side2 => exact HC0_0.out); rintro e w14 ⟨v529, rfl, ho0, hb⟩; refine ⟨_, rfl, ?_⟩; have HO530 := Aside0.mk (Kd.R_lower ho0 (below_size (tb HB))); replace BK524 := bb BK524 hb; replace BK525 := bb BK525 hb; replace BK526 := bb BK526 hb; replace BK527 := bb BK527 hb; replace HB := bs HB hb; (try clear hb); (try clear hb2); (try clear hk); (try clear hi); (try clear ho0)) | ((with_reducible refine gate_dst (N := 7) rfl ?_); refine bx (N := 7) (cs := #[.slice none 0 0, .int .i64 0]) (t := 65) ?_; intro gb532 hg w15 hbox hb; replace HO530 := rb HO530 hb; have BK532 := Aside0.mk (hbox); have GW532 := Aside0.mk (ge_ hg HB); have GE532 := Aside0.mk (ge_ hg HB); replace HB := bs HB hb; have NB524_532 := Aside0.mk (nl_ hg BK524); have NB532_524 := Aside0.mk (ng_ hg BK524); replace BK524 := bb BK524 hb; have NB525_532 := Aside0.mk (nl_ hg BK525); have NB532_525 := Aside0.mk (ng_ hg BK525); replace BK525 := bb BK525 hb; have NB526_532 := Aside0.mk (nl_ hg BK526); have NB532_526 := Aside0.mk (ng_ hg BK526); replace BK526 := bb BK526 hb; have NB527_532 := Aside0.mk (nl_ hg BK527); have NB532_527 := Aside0.mk (ng_ hg BK527); replace BK527 := bb BK527 hb; clear hb hbox hg; obtain ⟨Ao16, co16, eo16⟩ := Kd.R_slice HO530.out; subst eo16; have hnb17 := NB532_524.out; have hnc17 := NB524_532.out; have hnb18 := NB532_525.out; have hnc18 := NB525_532.out; have hnb19 := NB532_526.out; have hnc19 := NB526_532.out; have hnb20 := NB532_527.out; have hnc20 := NB527_532.out; obtain ⟨hcz21_0, hcz21_1, hfz21_0, hfz21_1⟩ := c2 BK532))
 (try simp only [Act.put, sA, sB, sC])
 go_cut [19] (fun v19 wc => ∃ (kq : Nat) (x19_4 : Bool), v19 = .bool x19_4 ∧ Aside0 (spec_After.j0 kq x19_4 l0_0 a0_1 a1_0 a1_1 a1_2 t528 t531 = some (r1, r2)) ∧ Aside0 (kq ≤ k) ∧ Aside0 (Kd.R (Kd.int .i64) 3 wc w.heap.size (fun _ => True) (.slice Ao16 t528.length co16) t528) ∧ Aside0 (wc.heap[gb524]? = some (.cells #[(.slice A0_0 l0_0.length c0_0), .int .i64 a0_1] 65 (0, 0))) ∧ Aside0 (wc.heap[gb525]? = some (.cells #[.int .i64 a1_0, .int .i64 a1_1, .int .i64 a1_2] 68 (0, 0))) ∧ Aside0 (wc.heap[gb526]? = some (.cells #[.int .i64 a2_0, (.slice A2_1 l2_1.length c2_1)] 70 (0, 0))) ∧ Aside0 (wc.heap[gb527]? = some (.cells #[(.slice none 0 0), .int .i64 0] 65 (0, 0))) ∧ Aside0 (wc.heap[gb532]? = some (.cells #[(.slice Ao16 t528.length co16), .int .i64 t531] 65 (0, 0))) ∧ Aside0 (Below w.heap.size w wc))
 case first =>
  have H := HC5.out
  clear HC5
  replace H := Option.bind_eq_some_iff.mp H
  obtain ⟨t533, A220, H⟩ := H
  replace H : (if t533 = true then (spec_After.j0 k (a2_0 != 0) l0_0 a0_1 a1_0 a1_1 a1_2 t528 t531) else (spec_After.j0 k true l0_0 a0_1 a1_0 a1_1 a1_2 t528 t531)) = some (r1, r2) := H
  have A22 := Aside0.mk A220
  clear A220
  by_cases c23 : t533 = true
  ·subst c23
   have H1 : (spec_After.j0 k (a2_0 != 0) l0_0 a0_1 a1_0 a1_1 a1_2 t528 t531) = some (r1, r2) := by rw [if_pos rfl] at H; exact H
   clear H
   have H := H1
   clear H1
   have H' := Aside0.mk H
   clear H
   have hnb24 := NB524_525.out
   have hnc24 := NB525_524.out
   have hnb25 := NB524_526.out
   have hnc25 := NB526_524.out
   have hnb26 := NB524_527.out
   have hnc26 := NB527_524.out
   have hnb27 := NB524_532.out
   have hnc27 := NB532_524.out
   obtain ⟨hcz28_0, hcz28_1, hfz28_0, hfz28_1⟩ := c2 BK524
   have hnb29 := NB525_526.out
   have hnc29 := NB526_525.out
   have hnb30 := NB525_527.out
   have hnc30 := NB527_525.out
   have hnb31 := NB525_532.out
   have hnc31 := NB532_525.out
   obtain ⟨hcz32_0, hcz32_1, hcz32_2, hfz32_0, hfz32_1, hfz32_2⟩ := c3 BK525
   have hnb33 := NB526_527.out
   have hnc33 := NB527_526.out
   have hnb34 := NB526_532.out
   have hnc34 := NB532_526.out
   obtain ⟨hcz35_0, hcz35_1, hfz35_0, hfz35_1⟩ := c2 BK526
   go_wp2_with (first | ((with_reducible refine gate_callee (f := 49) rfl ?_); refine gL 13 Try.func49 #[.agg #[.slice A0_0 l0_0.length c0_0, .int .i64 a0_1], .agg #[.int .i64 a1_0, .int .i64 a1_1, .int .i64 a1_2], .agg #[.int .i64 a2_0, .slice A2_1 l2_1.length c2_1]] ?_; (with_reducible refine (spec_Allowed.calls k _ _ l0_0 a0_1 a1_0 a1_1 a1_2 a2_0 _ _ l2_1 true _ ?side1 ?side2 ?side3 ?side4 A22.out).mono ?_); (case side1 => exact Kd.C_below HR0_0.out (tb HB)); (case side2 => exact HC0_0.out); (case side3 => exact Kd.C_below HR2_1.out (tb HB)); (case side4 => exact HC2_1.out); rintro e w36 ⟨rfl, hb⟩; refine ⟨_, rfl, ?_⟩; replace HO530 := Aside0.mk (Kd.R_below (kr ((Kd.R_mono (Kd.R_far (p := ⟨gb532, 1, none⟩) (Kd.R_far (p := ⟨gb532, 0, none⟩) (Kd.R_types HO530.out BK532.out (by decide)) (fun _ hk => hk.2) (.slice Ao16 t528.length co16)) (fun _ hk => hk.2) (.int .i64 t531)) (fun _ h_ => h_.1)))) hb); replace BK524 := Aside0.mk (blk_below (g := gb524) (o := .cells #[.slice A0_0 l0_0.length c0_0, .int .i64 a0_1] 65 (0, 0)) (bf BK524) hb); replace BK525 := Aside0.mk (blk_below (g := gb525) (o := .cells #[.int .i64 a1_0, .int .i64 a1_1, .int .i64 a1_2] 68 (0, 0)) (bf BK525) hb); replace BK526 := Aside0.mk (blk_below (g := gb526) (o := .cells #[.int .i64 a2_0, .slice A2_1 l2_1.length c2_1] 70 (0, 0)) (bf BK526) hb); replace BK527 := Aside0.mk (blk_below (g := gb527) (o := .cells #[.slice none 0 0, .int .i64 0] 65 (0, 0)) (bf BK527) hb); replace BK532 := Aside0.mk (blk_below (g := gb532) (o := .cells #[.slice Ao16 t528.length co16, .int .i64 t531] 65 (0, 0)) (by (with_reducible repeat (first | refine blk_drewN ?_ _ | refine blk_drew ?_ | refine blk_alloc ?_ _)); refine blk_put (cs := #[.slice Ao16 t528.length co16, .int .i64 0]) ?_ 1 _ rfl; (with_reducible repeat (first | refine blk_drewN ?_ _ | refine blk_drew ?_ | refine blk_alloc ?_ _)); refine blk_put (cs := #[.slice none 0 0, .int .i64 0]) ?_ 0 _ rfl; (with_reducible repeat (first | refine blk_drewN ?_ _ | refine blk_drew ?_ | refine blk_alloc ?_ _)); exact BK532.out) hb); replace HB := bs HB hb; (try clear hb); (try clear hb2); (try clear hk); (try clear hi); obtain ⟨hcz37_0, hcz37_1, hfz37_0, hfz37_1⟩ := c2 BK526))
   go_meet
   case rel => exact ⟨_, ((a2_0 != 0)), (by first | rfl | (simp; done) | (simp [*]; done)), H', ⟨by first | omega | exact Nat.le_refl _⟩, ⟨kr HO530.out⟩, ⟨by (with_reducible repeat (first | refine blk_drewN ?_ _ | refine blk_drew ?_ | refine blk_alloc ?_ _)); exact BK524.out⟩, ⟨by (with_reducible repeat (first | refine blk_drewN ?_ _ | refine blk_drew ?_ | refine blk_alloc ?_ _)); exact BK525.out⟩, ⟨by (with_reducible repeat (first | refine blk_drewN ?_ _ | refine blk_drew ?_ | refine blk_alloc ?_ _)); exact BK526.out⟩, ⟨by (with_reducible repeat (first | refine blk_drewN ?_ _ | refine blk_drew ?_ | refine blk_alloc ?_ _)); exact BK527.out⟩, ⟨by (with_reducible repeat (first | refine blk_drewN ?_ _ | refine blk_drew ?_ | refine blk_alloc ?_ _)); exact BK532.out⟩, ⟨tb HB⟩⟩
  ·replace c23 := Bool.eq_false_iff.mpr c23
   subst c23
   have H1 : (spec_After.j0 k true l0_0 a0_1 a1_0 a1_1 a1_2 t528 t531) = some (r1, r2) := by rw [if_neg (show ¬ (false = true) by decide)] at H; exact H
   clear H
   have H := H1
   clear H1
   have H' := Aside0.mk H
   clear H
   have hnb38 := NB524_525.out
   have hnc38 := NB525_524.out
   have hnb39 := NB524_526.out
   have hnc39 := NB526_524.out
   have hnb40 := NB524_527.out
   have hnc40 := NB527_524.out
   have hnb41 := NB524_532.out
   have hnc41 := NB532_524.out
   obtain ⟨hcz42_0, hcz42_1, hfz42_0, hfz42_1⟩ := c2 BK524
   have hnb43 := NB525_526.out
   have hnc43 := NB526_525.out
   have hnb44 := NB525_527.out
   have hnc44 := NB527_525.out
   have hnb45 := NB525_532.out
   have hnc45 := NB532_525.out
   obtain ⟨hcz46_0, hcz46_1, hcz46_2, hfz46_0, hfz46_1, hfz46_2⟩ := c3 BK525
   have hnb47 := NB526_527.out
   have hnc47 := NB527_526.out
   have hnb48 := NB526_532.out
   have hnc48 := NB532_526.out
   obtain ⟨hcz49_0, hcz49_1, hfz49_0, hfz49_1⟩ := c2 BK526
   go_wp2_with (first | ((with_reducible refine gate_callee (f := 49) rfl ?_); refine gL 13 Try.func49 #[.agg #[.slice A0_0 l0_0.length c0_0, .int .i64 a0_1], .agg #[.int .i64 a1_0, .int .i64 a1_1, .int .i64 a1_2], .agg #[.int .i64 a2_0, .slice A2_1 l2_1.length c2_1]] ?_; (with_reducible refine (spec_Allowed.calls k _ _ l0_0 a0_1 a1_0 a1_1 a1_2 a2_0 _ _ l2_1 false _ ?side1 ?side2 ?side3 ?side4 A22.out).mono ?_); (case side1 => exact Kd.C_below HR0_0.out (tb HB)); (case side2 => exact HC0_0.out); (case side3 => exact Kd.C_below HR2_1.out (tb HB)); (case side4 => exact HC2_1.out); rintro e w50 ⟨rfl, hb⟩; refine ⟨_, rfl, ?_⟩; replace HO530 := Aside0.mk (Kd.R_below (kr ((Kd.R_mono (Kd.R_far (p := ⟨gb532, 1, none⟩) (Kd.R_far (p := ⟨gb532, 0, none⟩) (Kd.R_types HO530.out BK532.out (by decide)) (fun _ hk => hk.2) (.slice Ao16 t528.length co16)) (fun _ hk => hk.2) (.int .i64 t531)) (fun _ h_ => h_.1)))) hb); replace BK524 := Aside0.mk (blk_below (g := gb524) (o := .cells #[.slice A0_0 l0_0.length c0_0, .int .i64 a0_1] 65 (0, 0)) (bf BK524) hb); replace BK525 := Aside0.mk (blk_below (g := gb525) (o := .cells #[.int .i64 a1_0, .int .i64 a1_1, .int .i64 a1_2] 68 (0, 0)) (bf BK525) hb); replace BK526 := Aside0.mk (blk_below (g := gb526) (o := .cells #[.int .i64 a2_0, .slice A2_1 l2_1.length c2_1] 70 (0, 0)) (bf BK526) hb); replace BK527 := Aside0.mk (blk_below (g := gb527) (o := .cells #[.slice none 0 0, .int .i64 0] 65 (0, 0)) (bf BK527) hb); replace BK532 := Aside0.mk (blk_below (g := gb532) (o := .cells #[.slice Ao16 t528.length co16, .int .i64 t531] 65 (0, 0)) (by (with_reducible repeat (first | refine blk_drewN ?_ _ | refine blk_drew ?_ | refine blk_alloc ?_ _)); refine blk_put (cs := #[.slice Ao16 t528.length co16, .int .i64 0]) ?_ 1 _ rfl; (with_reducible repeat (first | refine blk_drewN ?_ _ | refine blk_drew ?_ | refine blk_alloc ?_ _)); refine blk_put (cs := #[.slice none 0 0, .int .i64 0]) ?_ 0 _ rfl; (with_reducible repeat (first | refine blk_drewN ?_ _ | refine blk_drew ?_ | refine blk_alloc ?_ _)); exact BK532.out) hb); replace HB := bs HB hb; (try clear hb); (try clear hb2); (try clear hk); (try clear hi)))
   go_meet
   case rel => exact ⟨_, (true), (by first | rfl | (simp; done) | (simp [*]; done)), H', ⟨by first | omega | exact Nat.le_refl _⟩, ⟨kr HO530.out⟩, ⟨by (with_reducible repeat (first | refine blk_drewN ?_ _ | refine blk_drew ?_ | refine blk_alloc ?_ _)); exact BK524.out⟩, ⟨by (with_reducible repeat (first | refine blk_drewN ?_ _ | refine blk_drew ?_ | refine blk_alloc ?_ _)); exact BK525.out⟩, ⟨by (with_reducible repeat (first | refine blk_drewN ?_ _ | refine blk_drew ?_ | refine blk_alloc ?_ _)); exact BK526.out⟩, ⟨by (with_reducible repeat (first | refine blk_drewN ?_ _ | refine blk_drew ?_ | refine blk_alloc ?_ _)); exact BK527.out⟩, ⟨by (with_reducible repeat (first | refine blk_drewN ?_ _ | refine blk_drew ?_ | refine blk_alloc ?_ _)); exact BK532.out⟩, ⟨tb HB⟩⟩
 case rest =>
  clear HC5
  try clear c1
  try clear c2
  try clear p2
  try clear c3
  try clear c4
  try clear c10
  try clear c11
  try clear c12
  try clear c17
  try clear c18
  try clear c19
  try clear c20
  try clear c23
  try clear c24
  try clear c25
  try clear c26
  try clear c27
  try clear c29
  try clear c30
  try clear c31
  try clear c33
  try clear c34
  try clear c38
  try clear c39
  try clear c40
  try clear c41
  try clear c43
  try clear c44
  try clear c45
  try clear c47
  try clear c48
  try clear c49
  try clear hcz13_0
  try clear hcz13_1
  try clear hcz21_0
  try clear hcz21_1
  try clear hcz28_0
  try clear hcz28_1
  try clear hcz32_0
  try clear hcz32_1
  try clear hcz32_2
  try clear hcz35_0
  try clear hcz35_1
  try clear hcz37_0
  try clear hcz37_1
  try clear hcz42_0
  try clear hcz42_1
  try clear hcz46_0
  try clear hcz46_1
  try clear hcz46_2
  try clear hcz49_0
  try clear hcz49_1
  try clear hfz13_0
  try clear hfz13_1
  try clear hfz21_0
  try clear hfz21_1
  try clear hfz28_0
  try clear hfz28_1
  try clear hfz32_0
  try clear hfz32_1
  try clear hfz32_2
  try clear hfz35_0
  try clear hfz35_1
  try clear hfz37_0
  try clear hfz37_1
  try clear hfz42_0
  try clear hfz42_1
  try clear hfz46_0
  try clear hfz46_1
  try clear hfz46_2
  try clear hfz49_0
  try clear hfz49_1
  obtain ⟨kq, x19_4, rfl, HA, HJ4, HO_533000, BK524, BK525, BK526, BK527, BK532, HB⟩ := hcut
  cases kq with
  | zero => exact absurd HA.out (by simp [spec_After.j0])
  | succ kj4 =>
   have H := HA.out
   clear HA
   simp only [spec_After.j0] at H
   by_cases c51 : x19_4 = true
   ·subst c51
    have H1 : (some (t528, t531)) = some (r1, r2) := by rw [if_pos rfl] at H; exact H
    clear H
    have H := H1
    clear H1
    simp only [Option.some.injEq, Prod.mk.injEq] at H
    obtain ⟨rfl, rfl⟩ := H
    have hnb52 := NB532_524.out
    have hnc52 := NB524_532.out
    have hnb53 := NB532_525.out
    have hnc53 := NB525_532.out
    have hnb54 := NB532_526.out
    have hnc54 := NB526_532.out
    have hnb55 := NB532_527.out
    have hnc55 := NB527_532.out
    obtain ⟨hcz56_0, hcz56_1, hfz56_0, hfz56_1⟩ := c2 BK532
    have hnb57 := NB527_524.out
    have hnc57 := NB524_527.out
    have hnb58 := NB527_525.out
    have hnc58 := NB525_527.out
    have hnb59 := NB527_526.out
    have hnc59 := NB526_527.out
    obtain ⟨hcz60_0, hcz60_1, hfz60_0, hfz60_1⟩ := c2 BK527
    go_wp2
    refine bodyPost_ret (results_cell_row rfl _ _ gb527 65 #[.slice Ao16 t528.length co16, .int .i64 t531] (0, 0) _ rfl (by (with_reducible repeat (first | refine blk_drewN ?_ _ | refine blk_drew ?_ | refine blk_alloc ?_ _)); refine blk_put (cs := #[.slice Ao16 t528.length co16, .int .i64 0]) ?_ 1 _ rfl; (with_reducible repeat (first | refine blk_drewN ?_ _ | refine blk_drew ?_ | refine blk_alloc ?_ _)); refine blk_put (cs := #[.slice none 0 0, .int .i64 0]) ?_ 0 _ rfl; (with_reducible repeat (first | refine blk_drewN ?_ _ | refine blk_drew ?_ | refine blk_alloc ?_ _)); exact BK527.out) Try.underlying65 rfl (by kernel_rfl)) rfl ?_
    exact ⟨_, er, by (with_reducible repeat (first | apply Kd.R_alloc | apply Kd.R_drewN | apply Kd.R_drew)); exact Kd.R_mono (Kd.R_far (p := ⟨gb527, 1, none⟩) (Kd.R_far (p := ⟨gb527, 0, none⟩) (Kd.R_types HO_533000.out BK527.out (by decide)) (fun _ hk => hk.2) (.slice Ao16 t528.length co16)) (fun _ hk => hk.2) (.int .i64 t531)) (fun _ hk => trivial), tb HB⟩
   ·replace c51 := Bool.eq_false_iff.mpr c51
    subst c51
    have H1 : (if a1_0 = 1 then (spec_After.j1 kj4 a1_0 (a1_0 == 1) l0_0 a0_1 a1_0 a1_1 a1_2 t528 t531) else (spec_After.j1 kj4 a1_0 (a1_0 == 2) l0_0 a0_1 a1_0 a1_1 a1_2 t528 t531)) = some (r1, r2) := by rw [if_neg (show ¬ (false = true) by decide)] at H; exact H
    clear H
    have H := H1
    clear H1
    have HC61 := Aside0.mk H
    clear H
    have hnb62 := NB525_524.out
    have hnc62 := NB524_525.out
    have hnb63 := NB525_526.out
    have hnc63 := NB526_525.out
    have hnb64 := NB525_527.out
    have hnc64 := NB527_525.out
    have hnb65 := NB525_532.out
    have hnc65 := NB532_525.out
    obtain ⟨hcz66_0, hcz66_1, hcz66_2, hfz66_0, hfz66_1, hfz66_2⟩ := c3 BK525
    go_upto_if 23 with (fail)
    go_cut [23] (fun v23 wc => ∃ (kq : Nat) (x23_60 : Bool), v23 = .bool x23_60 ∧ Aside0 (spec_After.j1 kq a1_0 x23_60 l0_0 a0_1 a1_0 a1_1 a1_2 t528 t531 = some (r1, r2)) ∧ Aside0 (kq ≤ kj4) ∧ Aside0 (Kd.R (Kd.int .i64) 3 wc w.heap.size (fun _ => True) (.slice Ao16 t528.length co16) t528) ∧ Aside0 (wc.heap[gb524]? = some (.cells #[(.slice A0_0 l0_0.length c0_0), .int .i64 a0_1] 65 (0, 0))) ∧ Aside0 (wc.heap[gb525]? = some (.cells #[.int .i64 a1_0, .int .i64 a1_1, .int .i64 a1_2] 68 (0, 0))) ∧ Aside0 (wc.heap[gb526]? = some (.cells #[.int .i64 a2_0, (.slice A2_1 l2_1.length c2_1)] 70 (0, 0))) ∧ Aside0 (wc.heap[gb527]? = some (.cells #[(.slice none 0 0), .int .i64 0] 65 (0, 0))) ∧ Aside0 (wc.heap[gb532]? = some (.cells #[(.slice Ao16 t528.length co16), .int .i64 t531] 65 (0, 0))) ∧ Aside0 (Below w.heap.size w wc))
    case first =>
     have H := HC61.out
     clear HC61
     by_cases c67 : a1_0 = 1
     ·rw [if_pos c67] at H
      have c67b0 : (a1_0 == 1) = true := beq_iff_eq.mpr c67
      have c67b1 : (a1_0 != 1) = false := bne_eq_false_iff_eq.mpr c67
      clear c67
      (first | rw [c67b0] | (simp only [i64_w, i32_w]; rw [c67b0]) | skip)
      have H' := Aside0.mk H
      clear H
      go_wp2
      go_meet
      case rel => exact ⟨_, ((a1_0 == 1)), (by first | rfl | (simp; done) | (simp [*]; done)), H', ⟨by have := HJ4.out; first | omega | exact Nat.le_refl _⟩, ⟨kr HO_533000.out⟩, ⟨by (with_reducible repeat (first | refine blk_drewN ?_ _ | refine blk_drew ?_ | refine blk_alloc ?_ _)); exact BK524.out⟩, ⟨by (with_reducible repeat (first | refine blk_drewN ?_ _ | refine blk_drew ?_ | refine blk_alloc ?_ _)); exact BK525.out⟩, ⟨by (with_reducible repeat (first | refine blk_drewN ?_ _ | refine blk_drew ?_ | refine blk_alloc ?_ _)); exact BK526.out⟩, ⟨by (with_reducible repeat (first | refine blk_drewN ?_ _ | refine blk_drew ?_ | refine blk_alloc ?_ _)); exact BK527.out⟩, ⟨by (with_reducible repeat (first | refine blk_drewN ?_ _ | refine blk_drew ?_ | refine blk_alloc ?_ _)); exact BK532.out⟩, ⟨tb HB⟩⟩
     ·rw [if_neg c67] at H
      have c67b0 : (a1_0 == 1) = false := beq_eq_false_iff_ne.mpr c67
      have c67b1 : (a1_0 != 1) = true := bne_iff_ne.mpr c67
      (first | rw [c67b0] | (simp only [i64_w, i32_w]; rw [c67b0]) | skip)
      have H' := Aside0.mk H
      clear H
      go_wp2
      go_meet
      case rel => exact ⟨_, ((a1_0 == 2)), (by first | rfl | (simp; done) | (simp [*]; done)), H', ⟨by have := HJ4.out; first | omega | exact Nat.le_refl _⟩, ⟨kr HO_533000.out⟩, ⟨by (with_reducible repeat (first | refine blk_drewN ?_ _ | refine blk_drew ?_ | refine blk_alloc ?_ _)); exact BK524.out⟩, ⟨by (with_reducible repeat (first | refine blk_drewN ?_ _ | refine blk_drew ?_ | refine blk_alloc ?_ _)); exact BK525.out⟩, ⟨by (with_reducible repeat (first | refine blk_drewN ?_ _ | refine blk_drew ?_ | refine blk_alloc ?_ _)); exact BK526.out⟩, ⟨by (with_reducible repeat (first | refine blk_drewN ?_ _ | refine blk_drew ?_ | refine blk_alloc ?_ _)); exact BK527.out⟩, ⟨by (with_reducible repeat (first | refine blk_drewN ?_ _ | refine blk_drew ?_ | refine blk_alloc ?_ _)); exact BK532.out⟩, ⟨tb HB⟩⟩
    case rest =>
     clear HC61
     try clear c1
     try clear c2
     try clear p2
     try clear c3
     try clear c4
     try clear c5
     try clear c6
     try clear c10
     try clear c11
     try clear c12
     try clear c17
     try clear c18
     try clear c19
     try clear c20
     try clear c23
     try clear c24
     try clear c25
     try clear c26
     try clear c27
     try clear c29
     try clear c30
     try clear c31
     try clear c33
     try clear c34
     try clear c38
     try clear c39
     try clear c40
     try clear c41
     try clear c43
     try clear c44
     try clear c45
     try clear c47
     try clear c48
     try clear c49
     try clear c51
     try clear c52
     try clear c53
     try clear c54
     try clear c55
     try clear c57
     try clear c58
     try clear c59
     try clear c62
     try clear c63
     try clear c64
     try clear c65
     try clear c67
     try clear c67b0
     try clear c67b1
     try clear hcz13_0
     try clear hcz13_1
     try clear hcz21_0
     try clear hcz21_1
     try clear hcz28_0
     try clear hcz28_1
     try clear hcz32_0
     try clear hcz32_1
     try clear hcz32_2
     try clear hcz35_0
     try clear hcz35_1
     try clear hcz37_0
     try clear hcz37_1
     try clear hcz42_0
     try clear hcz42_1
     try clear hcz46_0
     try clear hcz46_1
     try clear hcz46_2
     try clear hcz49_0
     try clear hcz49_1
     try clear hcz56_0
     try clear hcz56_1
     try clear hcz60_0
     try clear hcz60_1
     try clear hcz66_0
     try clear hcz66_1
     try clear hcz66_2
     try clear hfz13_0
     try clear hfz13_1
     try clear hfz21_0
     try clear hfz21_1
     try clear hfz28_0
     try clear hfz28_1
     try clear hfz32_0
     try clear hfz32_1
     try clear hfz32_2
     try clear hfz35_0
     try clear hfz35_1
     try clear hfz37_0
     try clear hfz37_1
     try clear hfz42_0
     try clear hfz42_1
     try clear hfz46_0
     try clear hfz46_1
     try clear hfz46_2
     try clear hfz49_0
     try clear hfz49_1
     try clear hfz56_0
     try clear hfz56_1
     try clear hfz60_0
     try clear hfz60_1
     try clear hfz66_0
     try clear hfz66_1
     try clear hfz66_2
     try clear p2
     obtain ⟨kq, x23_60, rfl, HA, HJ60, HO_533000, BK524, BK525, BK526, BK527, BK532, HB⟩ := hcut
     cases kq with
     | zero => exact absurd HA.out (by simp [spec_After.j1])
     | succ kj60 =>
      have H := HA.out
      clear HA
      simp only [spec_After.j1] at H
      by_cases c68 : x23_60 = true
      ·subst c68
       have H1 : (if 0 ≤ a1_1 then (if a1_1 < (t528.length : Int) then (some ((t528.set (a1_1 : Int).toNat a1_2), t531)) else (none)) else (none)) = some (r1, r2) := by rw [if_pos rfl] at H; exact H
       clear H
       have H := H1
       clear H1
       by_cases c69 : 0 ≤ a1_1
       ·rw [if_pos c69] at H
        have c69b0 := decide_eq_true c69
        clear c69
        by_cases c70 : a1_1 < (t528.length : Int)
        ·rw [if_pos c70] at H
         have c70b0 := decide_eq_true c70
         clear c70
         obtain ⟨y534, hy534⟩ : ∃ y_ : List Int, y_ = (t528.set (a1_1 : Int).toNat a1_2) := ⟨_, rfl⟩
         replace H : (some (y534, t531)) = some (r1, r2) := by first | (rw [hy534]; with_reducible exact H) | (have H2_ := (Option.bind_some _ _).symm.trans H; rw [hy534]; with_reducible exact H2_) | (have H2_ := (Option.bind_some _ _).symm.trans H; with_reducible exact H2_) | with_reducible exact H | (rw [hy534]; exact H) | exact H
         have Ny534 := Aside0.mk hy534
         clear hy534
         simp only [Option.some.injEq, Prod.mk.injEq] at H
         obtain ⟨rfl, rfl⟩ := H
         have hnb72 := NB532_524.out
         have hnc72 := NB524_532.out
         have hnb73 := NB532_525.out
         have hnc73 := NB525_532.out
         have hnb74 := NB532_526.out
         have hnc74 := NB526_532.out
         have hnb75 := NB532_527.out
         have hnc75 := NB527_532.out
         obtain ⟨hcz76_0, hcz76_1, hfz76_0, hfz76_1⟩ := c2 BK532
         have hnb77 := NB525_524.out
         have hnc77 := NB524_525.out
         have hnb78 := NB525_526.out
         have hnc78 := NB526_525.out
         have hnb79 := NB525_527.out
         have hnc79 := NB527_525.out
         obtain ⟨hcz80_0, hcz80_1, hcz80_2, hfz80_0, hfz80_1, hfz80_2⟩ := c3 BK525
         have p71 : 0 ≤ (a1_1 : Int) := od
         have q71 : (a1_1 : Int) < ((t528.length : Int) : Int) := od
         obtain ⟨go71, co71, eo71, gb71, gl71, cl71, HG71⟩ := Kd.R_form HO_533000.out (by omega)
         (first | cases eo71 | (injection eo71 with ea_ en_ ec_; (first | subst ea_ | (injection ea_ with ea_; subst ea_)); subst ec_; clear en_))
         have GB71 := Aside0.mk gb71
         have GG71 := Aside0.mk HG71
         clear gb71 gl71 HG71
         obtain ⟨hx71_0, hf71_0⟩ := Kd.R_celln 0 HO_533000.out (a1_1 : Int) p71 q71
         replace p71 := eq_true p71
         replace q71 := eq_true q71
         have HP81 := Kd.R_putg HO_533000.out (a1_1 : Int) a1_2
         go_wp2_with (first | ((with_reducible refine gate_store (t := 3) (p := 32) rfl ?_); refine store_event (t := 3) (p := 32) (v := ?vo_w82) (w1 := (wc.setCell ⟨go71, (a1_1 : Int).toNat, none⟩ (.int .i64 a1_2))) ?hg ?ho ?hn ?hr ?_; (case ho => rfl); (case hg => rfl); (case hn => rfl); (case hr => first | (go_simp; done) | (go_simp; rfl)); intro w82 hw; have hg : wc.grownBy w82 (some go71) := (by rw [hw]; exact HP81.2); have hp_ : Kd.R (Kd.int .i64) 3 w82 w.heap.size (fun _ => True) (.slice (some ⟨go71, 0, none⟩) t528.length co16) y534 := (by rw [hw, Ny534.out]; exact HP81.1); clear HP81; replace BK524 := Aside0.mk (blk_grown (g := gb524) (o := .cells #[.slice A0_0 l0_0.length c0_0, .int .i64 a0_1] 65 (0, 0)) (bk BK524) hg (Kd.R_ne HO_533000.out BK524.out (by decide))); replace BK525 := Aside0.mk (blk_grown (g := gb525) (o := .cells #[.int .i64 a1_0, .int .i64 a1_1, .int .i64 a1_2] 68 (0, 0)) (bk BK525) hg (Kd.R_ne HO_533000.out BK525.out (by decide))); replace BK526 := Aside0.mk (blk_grown (g := gb526) (o := .cells #[.int .i64 a2_0, .slice A2_1 l2_1.length c2_1] 70 (0, 0)) (bk BK526) hg (Kd.R_ne HO_533000.out BK526.out (by decide))); replace BK527 := Aside0.mk (blk_grown (g := gb527) (o := .cells #[.slice none 0 0, .int .i64 0] 65 (0, 0)) (bk BK527) hg (Kd.R_ne HO_533000.out BK527.out (by decide))); replace BK532 := Aside0.mk (blk_grown (g := gb532) (o := .cells #[.slice (some ⟨go71, 0, none⟩) t528.length co16, .int .i64 t531] 65 (0, 0)) (bk BK532) hg (Kd.R_ne HO_533000.out BK532.out (by decide))); replace HO_533000 := Aside0.mk (hp_); replace HB := Aside0.mk ((by rw [hw]; exact below_set (HB.out) GB71.out : Below w.heap.size w w82)); clear hg hw hp_; obtain ⟨hcz83_0, hcz83_1, hfz83_0, hfz83_1⟩ := c2 BK532; have hnb84 := NB527_524.out; have hnc84 := NB524_527.out; have hnb85 := NB527_526.out; have hnc85 := NB526_527.out; obtain ⟨hcz86_0, hcz86_1, hfz86_0, hfz86_1⟩ := c2 BK527))
         refine bodyPost_ret (results_cell_row rfl _ _ gb527 65 #[.slice (some ⟨go71, 0, none⟩) t528.length co16, .int .i64 t531] (0, 0) _ rfl (by (with_reducible repeat (first | refine blk_drewN ?_ _ | refine blk_drew ?_ | refine blk_alloc ?_ _)); refine blk_put (cs := #[.slice (some ⟨go71, 0, none⟩) t528.length co16, .int .i64 0]) ?_ 1 _ rfl; (with_reducible repeat (first | refine blk_drewN ?_ _ | refine blk_drew ?_ | refine blk_alloc ?_ _)); refine blk_put (cs := #[.slice none 0 0, .int .i64 0]) ?_ 0 _ rfl; (with_reducible repeat (first | refine blk_drewN ?_ _ | refine blk_drew ?_ | refine blk_alloc ?_ _)); exact BK527.out) Try.underlying65 rfl (by kernel_rfl)) rfl ?_
         exact ⟨_, er, by (with_reducible repeat (first | apply Kd.R_alloc | apply Kd.R_drewN | apply Kd.R_drew)); exact Kd.R_mono (Kd.R_far (p := ⟨gb527, 1, none⟩) (Kd.R_far (p := ⟨gb527, 0, none⟩) (Kd.R_types HO_533000.out BK527.out (by decide)) (fun _ hk => hk.2) (.slice (some ⟨go71, 0, none⟩) t528.length co16)) (fun _ hk => hk.2) (.int .i64 t531)) (fun _ hk => trivial), tb HB⟩
        ·rw [if_neg c70] at H
         exact absurd H (by simp)
       ·rw [if_neg c69] at H
        exact absurd H (by simp)
      ·replace c68 := Bool.eq_false_iff.mpr c68
       subst c68
       have H1 : (if a1_0 = 3 then (if 0 ≤ a1_1 then (if a1_1 < (t528.length : Int) then (some ((t528.set (a1_1 : Int).toNat 0), t531)) else (none)) else (none)) else (if a1_0 = 8 then (some (t528, wrap64 (a0_1 + 1))) else (if a1_0 = 9 then (some (t528, wrap64 (a0_1 + 1))) else (some (t528, t531))))) = some (r1, r2) := by rw [if_neg (show ¬ (false = true) by decide)] at H; exact H
       clear H
       have H := H1
       clear H1
       by_cases c87 : a1_0 = 3
       ·rw [if_pos c87] at H
        have c87b0 : (a1_0 == 3) = true := beq_iff_eq.mpr c87
        have c87b1 : (a1_0 != 3) = false := bne_eq_false_iff_eq.mpr c87
        clear c87
        by_cases c88 : 0 ≤ a1_1
        ·rw [if_pos c88] at H
         have c88b0 := decide_eq_true c88
         clear c88
         by_cases c89 : a1_1 < (t528.length : Int)
         ·rw [if_pos c89] at H
          have c89b0 := decide_eq_true c89
          clear c89
          obtain ⟨y535, hy535⟩ : ∃ y_ : List Int, y_ = (t528.set (a1_1 : Int).toNat 0) := ⟨_, rfl⟩
          replace H : (some (y535, t531)) = some (r1, r2) := by first | (rw [hy535]; with_reducible exact H) | (have H2_ := (Option.bind_some _ _).symm.trans H; rw [hy535]; with_reducible exact H2_) | (have H2_ := (Option.bind_some _ _).symm.trans H; with_reducible exact H2_) | with_reducible exact H | (rw [hy535]; exact H) | exact H
          have Ny535 := Aside0.mk hy535
          clear hy535
          simp only [Option.some.injEq, Prod.mk.injEq] at H
          obtain ⟨rfl, rfl⟩ := H
          have hnb91 := NB532_524.out
          have hnc91 := NB524_532.out
          have hnb92 := NB532_525.out
          have hnc92 := NB525_532.out
          have hnb93 := NB532_526.out
          have hnc93 := NB526_532.out
          have hnb94 := NB532_527.out
          have hnc94 := NB527_532.out
          obtain ⟨hcz95_0, hcz95_1, hfz95_0, hfz95_1⟩ := c2 BK532
          have hnb96 := NB525_524.out
          have hnc96 := NB524_525.out
          have hnb97 := NB525_526.out
          have hnc97 := NB526_525.out
          have hnb98 := NB525_527.out
          have hnc98 := NB527_525.out
          obtain ⟨hcz99_0, hcz99_1, hcz99_2, hfz99_0, hfz99_1, hfz99_2⟩ := c3 BK525
          have p90 : 0 ≤ (a1_1 : Int) := od
          have q90 : (a1_1 : Int) < ((t528.length : Int) : Int) := od
          obtain ⟨go90, co90, eo90, gb90, gl90, cl90, HG90⟩ := Kd.R_form HO_533000.out (by omega)
          (first | cases eo90 | (injection eo90 with ea_ en_ ec_; (first | subst ea_ | (injection ea_ with ea_; subst ea_)); subst ec_; clear en_))
          have GB90 := Aside0.mk gb90
          have GG90 := Aside0.mk HG90
          clear gb90 gl90 HG90
          obtain ⟨hx90_0, hf90_0⟩ := Kd.R_celln 0 HO_533000.out (a1_1 : Int) p90 q90
          replace p90 := eq_true p90
          replace q90 := eq_true q90
          have HP100 := Kd.R_putg HO_533000.out (a1_1 : Int) 0
          go_wp2_with (first | ((with_reducible refine gate_store (t := 3) (p := 39) rfl ?_); refine store_event (t := 3) (p := 39) (v := ?vo_w101) (w1 := (wc.setCell ⟨go90, (a1_1 : Int).toNat, none⟩ (.int .i64 0))) ?hg ?ho ?hn ?hr ?_; (case ho => rfl); (case hg => rfl); (case hn => rfl); (case hr => first | (go_simp; done) | (go_simp; rfl)); intro w101 hw; have hg : wc.grownBy w101 (some go90) := (by rw [hw]; exact HP100.2); have hp_ : Kd.R (Kd.int .i64) 3 w101 w.heap.size (fun _ => True) (.slice (some ⟨go90, 0, none⟩) t528.length co16) y535 := (by rw [hw, Ny535.out]; exact HP100.1); clear HP100; replace BK524 := Aside0.mk (blk_grown (g := gb524) (o := .cells #[.slice A0_0 l0_0.length c0_0, .int .i64 a0_1] 65 (0, 0)) (bk BK524) hg (Kd.R_ne HO_533000.out BK524.out (by decide))); replace BK525 := Aside0.mk (blk_grown (g := gb525) (o := .cells #[.int .i64 a1_0, .int .i64 a1_1, .int .i64 a1_2] 68 (0, 0)) (bk BK525) hg (Kd.R_ne HO_533000.out BK525.out (by decide))); replace BK526 := Aside0.mk (blk_grown (g := gb526) (o := .cells #[.int .i64 a2_0, .slice A2_1 l2_1.length c2_1] 70 (0, 0)) (bk BK526) hg (Kd.R_ne HO_533000.out BK526.out (by decide))); replace BK527 := Aside0.mk (blk_grown (g := gb527) (o := .cells #[.slice none 0 0, .int .i64 0] 65 (0, 0)) (bk BK527) hg (Kd.R_ne HO_533000.out BK527.out (by decide))); replace BK532 := Aside0.mk (blk_grown (g := gb532) (o := .cells #[.slice (some ⟨go90, 0, none⟩) t528.length co16, .int .i64 t531] 65 (0, 0)) (bk BK532) hg (Kd.R_ne HO_533000.out BK532.out (by decide))); replace HO_533000 := Aside0.mk (hp_); replace HB := Aside0.mk ((by rw [hw]; exact below_set (HB.out) GB90.out : Below w.heap.size w w101)); clear hg hw hp_; obtain ⟨hcz102_0, hcz102_1, hfz102_0, hfz102_1⟩ := c2 BK532; have hnb103 := NB527_524.out; have hnc103 := NB524_527.out; have hnb104 := NB527_526.out; have hnc104 := NB526_527.out; obtain ⟨hcz105_0, hcz105_1, hfz105_0, hfz105_1⟩ := c2 BK527))
          refine bodyPost_ret (results_cell_row rfl _ _ gb527 65 #[.slice (some ⟨go90, 0, none⟩) t528.length co16, .int .i64 t531] (0, 0) _ rfl (by (with_reducible repeat (first | refine blk_drewN ?_ _ | refine blk_drew ?_ | refine blk_alloc ?_ _)); refine blk_put (cs := #[.slice (some ⟨go90, 0, none⟩) t528.length co16, .int .i64 0]) ?_ 1 _ rfl; (with_reducible repeat (first | refine blk_drewN ?_ _ | refine blk_drew ?_ | refine blk_alloc ?_ _)); refine blk_put (cs := #[.slice none 0 0, .int .i64 0]) ?_ 0 _ rfl; (with_reducible repeat (first | refine blk_drewN ?_ _ | refine blk_drew ?_ | refine blk_alloc ?_ _)); exact BK527.out) Try.underlying65 rfl (by kernel_rfl)) rfl ?_
          exact ⟨_, er, by (with_reducible repeat (first | apply Kd.R_alloc | apply Kd.R_drewN | apply Kd.R_drew)); exact Kd.R_mono (Kd.R_far (p := ⟨gb527, 1, none⟩) (Kd.R_far (p := ⟨gb527, 0, none⟩) (Kd.R_types HO_533000.out BK527.out (by decide)) (fun _ hk => hk.2) (.slice (some ⟨go90, 0, none⟩) t528.length co16)) (fun _ hk => hk.2) (.int .i64 t531)) (fun _ hk => trivial), tb HB⟩
         ·rw [if_neg c89] at H
          exact absurd H (by simp)
        ·rw [if_neg c88] at H
         exact absurd H (by simp)
       ·rw [if_neg c87] at H
        have c87b0 : (a1_0 == 3) = false := beq_eq_false_iff_ne.mpr c87
        have c87b1 : (a1_0 != 3) = true := bne_iff_ne.mpr c87
        by_cases c106 : a1_0 = 8
        ·rw [if_pos c106] at H
         have c106b0 : (a1_0 == 8) = true := beq_iff_eq.mpr c106
         have c106b1 : (a1_0 != 8) = false := bne_eq_false_iff_eq.mpr c106
         clear c106
         simp only [Option.some.injEq, Prod.mk.injEq] at H
         obtain ⟨rfl, rfl⟩ := H
         have hnb107 := NB524_525.out
         have hnc107 := NB525_524.out
         have hnb108 := NB524_526.out
         have hnc108 := NB526_524.out
         have hnb109 := NB524_527.out
         have hnc109 := NB527_524.out
         have hnb110 := NB524_532.out
         have hnc110 := NB532_524.out
         obtain ⟨hcz111_0, hcz111_1, hfz111_0, hfz111_1⟩ := c2 BK524
         have hnb112 := NB532_525.out
         have hnc112 := NB525_532.out
         have hnb113 := NB532_526.out
         have hnc113 := NB526_532.out
         have hnb114 := NB532_527.out
         have hnc114 := NB527_532.out
         obtain ⟨hcz115_0, hcz115_1, hfz115_0, hfz115_1⟩ := c2 BK532
         have hnb116 := NB527_525.out
         have hnc116 := NB525_527.out
         have hnb117 := NB527_526.out
         have hnc117 := NB526_527.out
         obtain ⟨hcz118_0, hcz118_1, hfz118_0, hfz118_1⟩ := c2 BK527
         go_wp2
         refine bodyPost_ret (results_cell_row rfl _ _ gb527 65 #[.slice Ao16 t528.length co16, .int .i64 (wrap64 (a0_1 + 1))] (0, 0) _ rfl (by (with_reducible repeat (first | refine blk_drewN ?_ _ | refine blk_drew ?_ | refine blk_alloc ?_ _)); refine blk_put (cs := #[.slice Ao16 t528.length co16, .int .i64 0]) ?_ 1 _ rfl; (with_reducible repeat (first | refine blk_drewN ?_ _ | refine blk_drew ?_ | refine blk_alloc ?_ _)); refine blk_put (cs := #[.slice none 0 0, .int .i64 0]) ?_ 0 _ rfl; (with_reducible repeat (first | refine blk_drewN ?_ _ | refine blk_drew ?_ | refine blk_alloc ?_ _)); refine blk_far ?_ NB527_532.out _; (with_reducible repeat (first | refine blk_drewN ?_ _ | refine blk_drew ?_ | refine blk_alloc ?_ _)); exact BK527.out) Try.underlying65 rfl (by kernel_rfl)) rfl ?_
         exact ⟨_, er, by (with_reducible repeat (first | apply Kd.R_alloc | apply Kd.R_drewN | apply Kd.R_drew)); exact Kd.R_mono (Kd.R_far (p := ⟨gb527, 1, none⟩) (Kd.R_far (p := ⟨gb527, 0, none⟩) (Kd.R_far (p := ⟨gb532, 1, none⟩) (Kd.R_types (Kd.R_types HO_533000.out BK532.out (by decide)) BK527.out (by decide)) (fun _ hk => hk.1.2) (.int .i64 (wrap64 (a0_1 + 1)))) (fun _ hk => hk.2) (.slice Ao16 t528.length co16)) (fun _ hk => hk.2) (.int .i64 (wrap64 (a0_1 + 1)))) (fun _ hk => trivial), tb HB⟩
        ·rw [if_neg c106] at H
         have c106b0 : (a1_0 == 8) = false := beq_eq_false_iff_ne.mpr c106
         have c106b1 : (a1_0 != 8) = true := bne_iff_ne.mpr c106
         by_cases c119 : a1_0 = 9
         ·rw [if_pos c119] at H
          have c119b0 : (a1_0 == 9) = true := beq_iff_eq.mpr c119
          have c119b1 : (a1_0 != 9) = false := bne_eq_false_iff_eq.mpr c119
          clear c119
          simp only [Option.some.injEq, Prod.mk.injEq] at H
          obtain ⟨rfl, rfl⟩ := H
          have hnb120 := NB524_525.out
          have hnc120 := NB525_524.out
          have hnb121 := NB524_526.out
          have hnc121 := NB526_524.out
          have hnb122 := NB524_527.out
          have hnc122 := NB527_524.out
          have hnb123 := NB524_532.out
          have hnc123 := NB532_524.out
          obtain ⟨hcz124_0, hcz124_1, hfz124_0, hfz124_1⟩ := c2 BK524
          have hnb125 := NB532_525.out
          have hnc125 := NB525_532.out
          have hnb126 := NB532_526.out
          have hnc126 := NB526_532.out
          have hnb127 := NB532_527.out
          have hnc127 := NB527_532.out
          obtain ⟨hcz128_0, hcz128_1, hfz128_0, hfz128_1⟩ := c2 BK532
          have hnb129 := NB527_525.out
          have hnc129 := NB525_527.out
          have hnb130 := NB527_526.out
          have hnc130 := NB526_527.out
          obtain ⟨hcz131_0, hcz131_1, hfz131_0, hfz131_1⟩ := c2 BK527
          go_wp2
          refine bodyPost_ret (results_cell_row rfl _ _ gb527 65 #[.slice Ao16 t528.length co16, .int .i64 (wrap64 (a0_1 + 1))] (0, 0) _ rfl (by (with_reducible repeat (first | refine blk_drewN ?_ _ | refine blk_drew ?_ | refine blk_alloc ?_ _)); refine blk_put (cs := #[.slice Ao16 t528.length co16, .int .i64 0]) ?_ 1 _ rfl; (with_reducible repeat (first | refine blk_drewN ?_ _ | refine blk_drew ?_ | refine blk_alloc ?_ _)); refine blk_put (cs := #[.slice none 0 0, .int .i64 0]) ?_ 0 _ rfl; (with_reducible repeat (first | refine blk_drewN ?_ _ | refine blk_drew ?_ | refine blk_alloc ?_ _)); refine blk_far ?_ NB527_532.out _; (with_reducible repeat (first | refine blk_drewN ?_ _ | refine blk_drew ?_ | refine blk_alloc ?_ _)); exact BK527.out) Try.underlying65 rfl (by kernel_rfl)) rfl ?_
          exact ⟨_, er, by (with_reducible repeat (first | apply Kd.R_alloc | apply Kd.R_drewN | apply Kd.R_drew)); exact Kd.R_mono (Kd.R_far (p := ⟨gb527, 1, none⟩) (Kd.R_far (p := ⟨gb527, 0, none⟩) (Kd.R_far (p := ⟨gb532, 1, none⟩) (Kd.R_types (Kd.R_types HO_533000.out BK532.out (by decide)) BK527.out (by decide)) (fun _ hk => hk.1.2) (.int .i64 (wrap64 (a0_1 + 1)))) (fun _ hk => hk.2) (.slice Ao16 t528.length co16)) (fun _ hk => hk.2) (.int .i64 (wrap64 (a0_1 + 1)))) (fun _ hk => trivial), tb HB⟩
         ·rw [if_neg c119] at H
          have c119b0 : (a1_0 == 9) = false := beq_eq_false_iff_ne.mpr c119
          have c119b1 : (a1_0 != 9) = true := bne_iff_ne.mpr c119
          simp only [Option.some.injEq, Prod.mk.injEq] at H
          obtain ⟨rfl, rfl⟩ := H
          have hnb132 := NB532_524.out
          have hnc132 := NB524_532.out
          have hnb133 := NB532_525.out
          have hnc133 := NB525_532.out
          have hnb134 := NB532_526.out
          have hnc134 := NB526_532.out
          have hnb135 := NB532_527.out
          have hnc135 := NB527_532.out
          obtain ⟨hcz136_0, hcz136_1, hfz136_0, hfz136_1⟩ := c2 BK532
          have hnb137 := NB527_524.out
          have hnc137 := NB524_527.out
          have hnb138 := NB527_525.out
          have hnc138 := NB525_527.out
          have hnb139 := NB527_526.out
          have hnc139 := NB526_527.out
          obtain ⟨hcz140_0, hcz140_1, hfz140_0, hfz140_1⟩ := c2 BK527
          go_wp2
          refine bodyPost_ret (results_cell_row rfl _ _ gb527 65 #[.slice Ao16 t528.length co16, .int .i64 t531] (0, 0) _ rfl (by (with_reducible repeat (first | refine blk_drewN ?_ _ | refine blk_drew ?_ | refine blk_alloc ?_ _)); refine blk_put (cs := #[.slice Ao16 t528.length co16, .int .i64 0]) ?_ 1 _ rfl; (with_reducible repeat (first | refine blk_drewN ?_ _ | refine blk_drew ?_ | refine blk_alloc ?_ _)); refine blk_put (cs := #[.slice none 0 0, .int .i64 0]) ?_ 0 _ rfl; (with_reducible repeat (first | refine blk_drewN ?_ _ | refine blk_drew ?_ | refine blk_alloc ?_ _)); exact BK527.out) Try.underlying65 rfl (by kernel_rfl)) rfl ?_
          exact ⟨_, er, by (with_reducible repeat (first | apply Kd.R_alloc | apply Kd.R_drewN | apply Kd.R_drew)); exact Kd.R_mono (Kd.R_far (p := ⟨gb527, 1, none⟩) (Kd.R_far (p := ⟨gb527, 0, none⟩) (Kd.R_types HO_533000.out BK527.out (by decide)) (fun _ hk => hk.2) (.slice Ao16 t528.length co16)) (fun _ hk => hk.2) (.int .i64 t531)) (fun _ hk => trivial), tb HB⟩
def slices_Index_int_int.l0 : Nat → List Int → Int → Int → Int → Option (Int)
 | 0, _, _, _, _ => none
 | k + 1, x0, x1, x7, x8 => if x8 < x7 then (if 0 ≤ x8 then (if x8 < (x0.length : Int) then (if x1 = (rd x0 x8) then (some x8) else (slices_Index_int_int.l0 k x0 x1 x7 (wrap64 (x8 + 1)))) else (none)) else (none)) else (some (-1))
def slices_Index_int_int.f (k : Nat) (l0 : List Int) (a1 : Int) : Option (Int) := slices_Index_int_int.l0 k l0 a1 (l0.length : Int) 0
theorem slices_Index_int_int.mono_l : ∀ k, (∀ y0 y1 y2 y3, LeO (slices_Index_int_int.l0 k y0 y1 y2 y3) (slices_Index_int_int.l0 (k + 1) y0 y1 y2 y3))
 | 0 => fun _ _ _ _ r h => by simp [slices_Index_int_int.l0] at h
 | k + 1 => by
  have ih0 := slices_Index_int_int.mono_l k
  ·intro y0 y1 y2 y3
   unfold slices_Index_int_int.l0
   repeat' first
   | (with_reducible exact ih0 _ _ _ _)
   | (with_reducible exact LeO.refl _)
   | (with_reducible exact LeO.none _)
   | (with_reducible refine LeO.ite ?_ ?_)
   | (with_reducible refine LeO.bind ?_ (fun _ => ?_))
   | exact ih0 _ _ _ _
   | exact LeO.none _
   | refine LeO.ite ?_ ?_
   | refine LeO.bind ?_ (fun _ => ?_)
theorem slices_Index_int_int.mono : ∀ a0 a1 k, LeO (slices_Index_int_int.f k a0 a1) (slices_Index_int_int.f (k + 1) a0 a1) := by
 intro a0 a1 k
 have ih0 := slices_Index_int_int.mono_l k
 unfold slices_Index_int_int.f
 repeat' first
   | (with_reducible exact ih0 _ _ _ _)
   | (with_reducible exact LeO.refl _)
   | (with_reducible exact LeO.none _)
   | (with_reducible refine LeO.ite ?_ ?_)
   | (with_reducible refine LeO.bind ?_ (fun _ => ?_))
   | exact ih0 _ _ _ _
   | exact LeO.none _
   | refine LeO.ite ?_ ?_
   | refine LeO.bind ?_ (fun _ => ?_)
set_option maxHeartbeats 8000000 in
set_option maxRecDepth 100000 in
theorem slices_Index_int_int.calls (k : Nat) (A0 : Option Addr) (c0 : Nat) (l0 : List Int) (a1 : Int) (r : Int) (w : World) (hr0 : Kd.C (Kd.int .i64) w A0 l0.length l0) (hc0 : l0.length ≤ c0) (h : slices_Index_int_int.f k l0 a1 = some r) :
  Calls Try.prog 167 #[.slice A0 l0.length c0, .int .i64 a1] w fun e w' => e = .returned (.int .i64 r) ∧ Drawn0 w w' := by
 have HR0 := Aside0.mk hr0
 have HC0 := Aside0.mk hc0
 clear hr0 hc0
 have H : (slices_Index_int_int.l0 k l0 a1 (l0.length : Int) 0) = some r := h
 clear h
 have H' := Aside0.mk H
 clear H
 go_enter Try.func167, Try.ntmps167
 go_wp2
 go_loopg [8] k (fun kq v8 w' => ∃ (x8_1 : Int), v8 = .int .i64 x8_1 ∧ Aside0 (slices_Index_int_int.l0 kq l0 a1 (l0.length : Int) x8_1 = some r) ∧ Aside0 (kq ≤ k) ∧ Drawn0 w w')
 case atStart => exact ⟨(0), (by first | rfl | (simp; done) | (simp [*]; done)), H', ⟨Nat.le_refl _⟩, by repeat (first | exact Drawn0.refl _ | apply Drawn0.step)⟩
 case round =>
  clear H'
  try clear c1
  try clear p2
  obtain ⟨x8_1, rfl, HA, HK1, ⟨m1, rfl⟩⟩ := hrel
  cases gk with
  | zero => exact absurd HA.out (by simp [slices_Index_int_int.l0])
  | succ k1 =>
   have H := HA.out
   clear HA
   simp only [slices_Index_int_int.l0] at H
   by_cases c3 : x8_1 < (l0.length : Int)
   ·rw [if_pos c3] at H
    have c3b0 := decide_eq_true c3
    clear c3
    by_cases c4 : 0 ≤ x8_1
    ·rw [if_pos c4] at H
     have c4b0 := decide_eq_true c4
     clear c4
     by_cases c5 : x8_1 < (l0.length : Int)
     ·rw [if_pos c5] at H
      have c5b0 := decide_eq_true c5
      clear c5
      by_cases c6 : a1 = (rd l0 x8_1)
      ·rw [if_pos c6] at H
       have c6b0 : (a1 == (rd l0 x8_1)) = true := beq_iff_eq.mpr c6
       have c6b1 : (a1 != (rd l0 x8_1)) = false := bne_eq_false_iff_eq.mpr c6
       clear c6
       obtain rfl := Option.some.inj H
       have p542 : 0 ≤ (x8_1 : Int) := od
       have q542 : x8_1 < (l0.length : Int) := od
       obtain ⟨ad542, e542, hx542_0⟩ := Kd.at_int HR0.out x8_1 p542 q542
       cases e542
       replace p542 := eq_true p542
       replace q542 := eq_true q542
       go_wp2
       go_ret
       exact ⟨by first | rfl | (simp; done) | (simp [*]; done), by repeat (first | exact Drawn0.refl _ | apply Drawn0.step)⟩
      ·rw [if_neg c6] at H
       have c6b0 : (a1 == (rd l0 x8_1)) = false := beq_eq_false_iff_ne.mpr c6
       have c6b1 : (a1 != (rd l0 x8_1)) = true := bne_iff_ne.mpr c6
       have H' := Aside0.mk H
       clear H
       have p542 : 0 ≤ (x8_1 : Int) := od
       have q542 : x8_1 < (l0.length : Int) := od
       obtain ⟨ad542, e542, hx542_0⟩ := Kd.at_int HR0.out x8_1 p542 q542
       cases e542
       replace p542 := eq_true p542
       replace q542 := eq_true q542
       go_wp2
       go_roundg k1
       case measure => have := HK1.out; omega
       case rel => exact ⟨(wrap64 (x8_1 + 1)), (by first | rfl | (simp; done) | (simp [*]; done)), H', ⟨by have := HK1.out; omega⟩, by repeat (first | exact Drawn0.refl _ | apply Drawn0.step)⟩
     ·rw [if_neg c5] at H
      exact absurd H (by simp)
    ·rw [if_neg c4] at H
     exact absurd H (by simp)
   ·rw [if_neg c3] at H
    have c3b0 := decide_eq_false c3
    clear c3
    obtain rfl := Option.some.inj H
    go_wp2
    go_ret
    exact ⟨by first | rfl | (simp; done) | (simp [*]; done), by repeat (first | exact Drawn0.refl _ | apply Drawn0.step)⟩
def slices_Contains_int_int.f (k : Nat) (l0 : List Int) (a1 : Int) : Option (Bool) := (slices_Index_int_int.f k l0 a1).bind fun t543 => (some (decide (t543 ≥ 0)))
theorem slices_Contains_int_int.mono : ∀ a0 a1 k, LeO (slices_Contains_int_int.f k a0 a1) (slices_Contains_int_int.f (k + 1) a0 a1) := by
 intro a0 a1 k
 unfold slices_Contains_int_int.f
 repeat' first
   | (with_reducible exact slices_Index_int_int.mono _ _ _)
   | (with_reducible exact LeO.refl _)
   | (with_reducible exact LeO.none _)
   | (with_reducible refine LeO.ite ?_ ?_)
   | (with_reducible refine LeO.bind ?_ (fun _ => ?_))
   | exact slices_Index_int_int.mono _ _ _
   | exact LeO.none _
   | refine LeO.ite ?_ ?_
   | refine LeO.bind ?_ (fun _ => ?_)
set_option maxHeartbeats 8000000 in
set_option maxRecDepth 100000 in
theorem slices_Contains_int_int.calls (k : Nat) (A0 : Option Addr) (c0 : Nat) (l0 : List Int) (a1 : Int) (r : Bool) (w : World) (hr0 : Kd.C (Kd.int .i64) w A0 l0.length l0) (hc0 : l0.length ≤ c0) (h : slices_Contains_int_int.f k l0 a1 = some r) :
  Calls Try.prog 126 #[.slice A0 l0.length c0, .int .i64 a1] w fun e w' => e = .returned (.bool r) ∧ Drawn0 w w' := by
 have HR0 := Aside0.mk hr0
 have HC0 := Aside0.mk hc0
 clear hr0 hc0
 have H : ((slices_Index_int_int.f k l0 a1).bind fun t543 => (some (decide (t543 ≥ 0)))) = some r := h
 clear h
 replace H := Option.bind_eq_some_iff.mp H
 obtain ⟨t543, A30, H⟩ := H
 replace H : (some (decide (t543 ≥ 0))) = some r := H
 have A3 := Aside0.mk A30
 clear A30
 obtain rfl := Option.some.inj H
 go_enter Try.func126, Try.ntmps126
 go_wp2_with (first | ((with_reducible refine gate_callee (f := 167) rfl ?_); refine gL 7 Try.func167 #[.slice A0 l0.length c0, .int .i64 a1] ?_; (with_reducible refine (slices_Index_int_int.calls k _ _ l0 a1 t543 _ ?side1 ?side2 A3.out).mono ?_); (case side1 => repeat (first | exact HR0.out | (with_reducible refine Kd.C_alloc ?_ _) | (with_reducible refine Kd.C_drewN ?_ _) | (with_reducible refine Kd.C_drew ?_))); (case side2 => exact HC0.out); rintro e w' ⟨rfl, ⟨nd, rfl⟩⟩; refine ⟨_, rfl, ?_⟩))
 go_ret
 exact ⟨by first | rfl | (simp; done) | (simp [*]; done), by repeat (first | exact Drawn0.refl _ | apply Drawn0.step)⟩
def impl_RowsOk.l0 : Nat → List Int → Int → Int → List Int → Int → Option (Bool)
 | 0, _, _, _, _, _ => none
 | k + 1, x6, x7, x8, x545000, x545001 => if x8 < x7 then (if 0 ≤ x8 then (if x8 < (x6.length : Int) then (if (rd x6 x8) = 0 then (impl_RowsOk.l0 k x6 x7 (wrap64 (x8 + 1)) x545000 x545001) else ((impl_ValOk.f (rd x6 x8)).bind fun t547 => (if t547 = true then (if x8 ≤ (x545000.length : Int) then ((slices_Contains_int_int.f k (x545000.take (x8 : Int).toNat) (rd x6 x8)).bind fun t549 => (if t549 = true then (some false) else (impl_RowsOk.l0 k x6 x7 (wrap64 (x8 + 1)) x545000 x545001))) else (none)) else (some false)))) else (none)) else (none)) else (if (x545000.length : Int) = 4 then ((impl_from.f x545001 0 5).bind fun t545 => (some t545)) else (some false))
def impl_RowsOk.f (k : Nat) (l0_0 : List Int) (a0_1 : Int) : Option (Bool) := impl_RowsOk.l0 k l0_0 (l0_0.length : Int) 0 l0_0 a0_1
theorem impl_RowsOk.mono_l : ∀ k, (∀ y0 y1 y2 y3 y4, LeO (impl_RowsOk.l0 k y0 y1 y2 y3 y4) (impl_RowsOk.l0 (k + 1) y0 y1 y2 y3 y4))
 | 0 => fun _ _ _ _ _ r h => by simp [impl_RowsOk.l0] at h
 | k + 1 => by
  have ih0 := impl_RowsOk.mono_l k
  ·intro y0 y1 y2 y3 y4
   unfold impl_RowsOk.l0
   repeat' first
   | (with_reducible exact ih0 _ _ _ _ _)
   | (with_reducible exact slices_Contains_int_int.mono _ _ _)
   | (with_reducible exact LeO.refl _)
   | (with_reducible exact LeO.none _)
   | (with_reducible refine LeO.ite ?_ ?_)
   | (with_reducible refine LeO.bind ?_ (fun _ => ?_))
   | exact ih0 _ _ _ _ _
   | exact slices_Contains_int_int.mono _ _ _
   | exact LeO.none _
   | refine LeO.ite ?_ ?_
   | refine LeO.bind ?_ (fun _ => ?_)
theorem impl_RowsOk.mono : ∀ a0 a1 k, LeO (impl_RowsOk.f k a0 a1) (impl_RowsOk.f (k + 1) a0 a1) := by
 intro a0 a1 k
 have ih0 := impl_RowsOk.mono_l k
 unfold impl_RowsOk.f
 repeat' first
   | (with_reducible exact ih0 _ _ _ _ _)
   | (with_reducible exact slices_Contains_int_int.mono _ _ _)
   | (with_reducible exact LeO.refl _)
   | (with_reducible exact LeO.none _)
   | (with_reducible refine LeO.ite ?_ ?_)
   | (with_reducible refine LeO.bind ?_ (fun _ => ?_))
   | exact ih0 _ _ _ _ _
   | exact slices_Contains_int_int.mono _ _ _
   | exact LeO.none _
   | refine LeO.ite ?_ ?_
   | refine LeO.bind ?_ (fun _ => ?_)
set_option maxHeartbeats 8000000 in
set_option maxRecDepth 100000 in
theorem impl_RowsOk.calls (k : Nat) (A0_0 : Option Addr) (c0_0 : Nat) (l0_0 : List Int) (a0_1 : Int) (r : Bool) (w : World) (hr0_0 : Kd.C (Kd.int .i64) w A0_0 l0_0.length l0_0) (hc0_0 : l0_0.length ≤ c0_0) (h : impl_RowsOk.f k l0_0 a0_1 = some r) :
  Calls Try.prog 55 #[.agg #[.slice A0_0 l0_0.length c0_0, .int .i64 a0_1]] w fun e w' => e = .returned (.bool r) ∧ Below w.heap.size w w' := by
 have hu65 := Try.underlying65
 have HR0_0 := Aside0.mk hr0_0
 have HC0_0 := Aside0.mk hc0_0
 clear hr0_0 hc0_0
 have HB := Aside0.mk (Below.refl w.heap.size w)
 have H : (impl_RowsOk.l0 k l0_0 (l0_0.length : Int) 0 l0_0 a0_1) = some r := h
 clear h
 have H' := Aside0.mk H
 clear H
 go_enter Try.func55, Try.ntmps55
 go_wp2_with (first | ((with_reducible refine gate_dst (N := 1) rfl ?_); refine bx (N := 1) (cs := #[.slice A0_0 l0_0.length c0_0, .int .i64 a0_1]) (t := 65) ?_; intro gb544 hg w2 hbox hb; have BK544 := Aside0.mk (hbox); have GW544 := Aside0.mk (ge_ hg HB); have GE544 := Aside0.mk (ge_ hg HB); replace HB := bs HB hb; clear hb hbox hg; obtain ⟨hcz3_0, hcz3_1, hfz3_0, hfz3_1⟩ := c2 BK544))
 go_loopg [8] k (fun kq v8 w' => ∃ (x8_1 : Int), v8 = .int .i64 x8_1 ∧ Aside0 (impl_RowsOk.l0 kq l0_0 (l0_0.length : Int) x8_1 l0_0 a0_1 = some r) ∧ Aside0 (kq ≤ k) ∧ Aside0 (w'.heap[gb544]? = some (.cells #[(.slice A0_0 l0_0.length c0_0), .int .i64 a0_1] 65 (0, 0))) ∧ Aside0 (Below w.heap.size w w'))
 case atStart => exact ⟨(0), (by first | rfl | (simp; done) | (simp [*]; done)), H', ⟨Nat.le_refl _⟩, ⟨by (with_reducible repeat (first | refine blk_drewN ?_ _ | refine blk_drew ?_ | refine blk_alloc ?_ _)); exact BK544.out⟩, ⟨tb HB⟩⟩
 case round =>
  clear H'
  try clear p2
  try clear hcz3_0
  try clear hcz3_1
  try clear hfz3_0
  try clear hfz3_1
  obtain ⟨x8_1, rfl, HA, HK1, BK544, HB⟩ := hrel
  cases gk with
  | zero => exact absurd HA.out (by simp [impl_RowsOk.l0])
  | succ k1 =>
   have H := HA.out
   clear HA
   simp only [impl_RowsOk.l0] at H
   by_cases c4 : x8_1 < (l0_0.length : Int)
   ·rw [if_pos c4] at H
    have c4b0 := decide_eq_true c4
    clear c4
    by_cases c5 : 0 ≤ x8_1
    ·rw [if_pos c5] at H
     have c5b0 := decide_eq_true c5
     clear c5
     by_cases c6 : x8_1 < (l0_0.length : Int)
     ·rw [if_pos c6] at H
      have c6b0 := decide_eq_true c6
      clear c6
      by_cases c7 : (rd l0_0 x8_1) = 0
      ·rw [if_pos c7] at H
       have c7b0 : ((rd l0_0 x8_1) == 0) = true := beq_iff_eq.mpr c7
       have c7b1 : ((rd l0_0 x8_1) != 0) = false := bne_eq_false_iff_eq.mpr c7
       clear c7
       have H' := Aside0.mk H
       clear H
       have p546 : 0 ≤ (x8_1 : Int) := od
       have q546 : x8_1 < (l0_0.length : Int) := od
       obtain ⟨ad546, e546, hx546_0⟩ := Kd.at_int HR0_0.out x8_1 p546 q546
       cases e546
       replace hx546_0 := (HB.out.cell (World.block_lt_of_cell? w _ hx546_0)).trans hx546_0
       replace p546 := eq_true p546
       replace q546 := eq_true q546
       go_wp2
       go_roundg k1
       case measure => have := HK1.out; omega
       case rel => exact ⟨(wrap64 (x8_1 + 1)), (by first | rfl | (simp; done) | (simp [*]; done)), H', ⟨by have := HK1.out; omega⟩, ⟨by (with_reducible repeat (first | refine blk_drewN ?_ _ | refine blk_drew ?_ | refine blk_alloc ?_ _)); exact BK544.out⟩, ⟨tb HB⟩⟩
      ·rw [if_neg c7] at H
       have c7b0 : ((rd l0_0 x8_1) == 0) = false := beq_eq_false_iff_ne.mpr c7
       have c7b1 : ((rd l0_0 x8_1) != 0) = true := bne_iff_ne.mpr c7
       replace H := Option.bind_eq_some_iff.mp H
       obtain ⟨t547, A80, H⟩ := H
       replace H : (if t547 = true then (if x8_1 ≤ (l0_0.length : Int) then ((slices_Contains_int_int.f k1 (l0_0.take (x8_1 : Int).toNat) (rd l0_0 x8_1)).bind fun t549 => (if t549 = true then (some false) else (impl_RowsOk.l0 k1 l0_0 (l0_0.length : Int) (wrap64 (x8_1 + 1)) l0_0 a0_1))) else (none)) else (some false)) = some r := H
       have A8 := Aside0.mk A80
       clear A80
       by_cases c9 : t547 = true
       ·subst c9
        have H1 : (if x8_1 ≤ (l0_0.length : Int) then ((slices_Contains_int_int.f k1 (l0_0.take (x8_1 : Int).toNat) (rd l0_0 x8_1)).bind fun t549 => (if t549 = true then (some false) else (impl_RowsOk.l0 k1 l0_0 (l0_0.length : Int) (wrap64 (x8_1 + 1)) l0_0 a0_1))) else (none)) = some r := by rw [if_pos rfl] at H; exact H
        clear H
        have H := H1
        clear H1
        have c10b0 := eq_true (od : 0 ≤ x8_1)
        by_cases c11 : x8_1 ≤ (l0_0.length : Int)
        ·rw [if_pos c11] at H
         have c11b0 := eq_true c11
         have c11b1 := decide_eq_true c11
         clear c11
         replace H := Option.bind_eq_some_iff.mp H
         obtain ⟨t549, A120, H⟩ := H
         replace H : (if t549 = true then (some false) else (impl_RowsOk.l0 k1 l0_0 (l0_0.length : Int) (wrap64 (x8_1 + 1)) l0_0 a0_1)) = some r := H
         have A12 := Aside0.mk A120
         clear A120
         by_cases c13 : t549 = true
         ·subst c13
          have H1 : (some false) = some r := by rw [if_pos rfl] at H; exact H
          clear H
          have H := H1
          clear H1
          obtain rfl := Option.some.inj H
          have p546 : 0 ≤ (x8_1 : Int) := od
          have q546 : x8_1 < (l0_0.length : Int) := od
          obtain ⟨ad546, e546, hx546_0⟩ := Kd.at_int HR0_0.out x8_1 p546 q546
          cases e546
          replace hx546_0 := (HB.out.cell (World.block_lt_of_cell? w _ hx546_0)).trans hx546_0
          replace p546 := eq_true p546
          replace q546 := eq_true q546
          go_wp2_with (first | (go_at_call 120; (with_reducible refine (impl_ValOk.calls (rd l0_0 x8_1) true _ A8.out).mono ?_); rintro e w' ⟨rfl, ⟨nd, rfl⟩⟩; obtain ⟨hcz14_0, hcz14_1, hfz14_0, hfz14_1⟩ := c2 BK544; obtain ⟨i015, hi015, _, hsz15, _⟩ := info_parts info3; obtain ⟨hcut15, hA15, hC15⟩ := print_take_of (P := Try.prog) (Value.int .i64) 0 22 3 .i64 Try.underlying22 hi015 hsz15 (some ad546) c0_0 l0_0 x8_1 (od) (od) HC0_0.out; have HR548 := Aside0.mk (Kd.C_of_reads (h1 := fun _ => rfl) (hA15 _ (Kd.reads_of_C HR0_0.out))); have HC548 := Aside0.mk hC15; clear hA15 hC15 hi015 hsz15) | (go_at_call 126; refine calls_of_args (args' := #[.slice (some ad546) (l0_0.take (x8_1 : Int).toNat).length c0_0, .int .i64 (rd l0_0 x8_1)]) (by first | (rw [show (l0_0.take (x8_1 : Int).toNat).length = x8_1.toNat from (by rw [List.length_take]; have h_ : (x8_1 : Int) ≤ (l0_0.length : Int) := od; omega)] <;> rfl) | rfl) ?_; (with_reducible refine (slices_Contains_int_int.calls k1 _ _ (l0_0.take (x8_1 : Int).toNat) (rd l0_0 x8_1) true _ ?side1 ?side2 A12.out).mono ?_); (case side1 => repeat (first | exact (Kd.C_below HR548.out (tb HB)) | (with_reducible refine Kd.C_alloc ?_ _) | (with_reducible refine Kd.C_drewN ?_ _) | (with_reducible refine Kd.C_drew ?_))); (case side2 => exact HC548.out); rintro e w' ⟨rfl, ⟨nd, rfl⟩⟩))
          go_ret
          exact ⟨er, tb HB⟩
         ·replace c13 := Bool.eq_false_iff.mpr c13
          subst c13
          have H1 : (impl_RowsOk.l0 k1 l0_0 (l0_0.length : Int) (wrap64 (x8_1 + 1)) l0_0 a0_1) = some r := by rw [if_neg (show ¬ (false = true) by decide)] at H; exact H
          clear H
          have H := H1
          clear H1
          have H' := Aside0.mk H
          clear H
          have p546 : 0 ≤ (x8_1 : Int) := od
          have q546 : x8_1 < (l0_0.length : Int) := od
          obtain ⟨ad546, e546, hx546_0⟩ := Kd.at_int HR0_0.out x8_1 p546 q546
          cases e546
          replace hx546_0 := (HB.out.cell (World.block_lt_of_cell? w _ hx546_0)).trans hx546_0
          replace p546 := eq_true p546
          replace q546 := eq_true q546
          go_wp2_with (first | (go_at_call 120; (with_reducible refine (impl_ValOk.calls (rd l0_0 x8_1) true _ A8.out).mono ?_); rintro e w' ⟨rfl, ⟨nd, rfl⟩⟩; obtain ⟨hcz16_0, hcz16_1, hfz16_0, hfz16_1⟩ := c2 BK544; obtain ⟨i017, hi017, _, hsz17, _⟩ := info_parts info3; obtain ⟨hcut17, hA17, hC17⟩ := print_take_of (P := Try.prog) (Value.int .i64) 0 22 3 .i64 Try.underlying22 hi017 hsz17 (some ad546) c0_0 l0_0 x8_1 (od) (od) HC0_0.out; have HR548 := Aside0.mk (Kd.C_of_reads (h1 := fun _ => rfl) (hA17 _ (Kd.reads_of_C HR0_0.out))); have HC548 := Aside0.mk hC17; clear hA17 hC17 hi017 hsz17) | (go_at_call 126; refine calls_of_args (args' := #[.slice (some ad546) (l0_0.take (x8_1 : Int).toNat).length c0_0, .int .i64 (rd l0_0 x8_1)]) (by first | (rw [show (l0_0.take (x8_1 : Int).toNat).length = x8_1.toNat from (by rw [List.length_take]; have h_ : (x8_1 : Int) ≤ (l0_0.length : Int) := od; omega)] <;> rfl) | rfl) ?_; (with_reducible refine (slices_Contains_int_int.calls k1 _ _ (l0_0.take (x8_1 : Int).toNat) (rd l0_0 x8_1) false _ ?side1 ?side2 A12.out).mono ?_); (case side1 => repeat (first | exact (Kd.C_below HR548.out (tb HB)) | (with_reducible refine Kd.C_alloc ?_ _) | (with_reducible refine Kd.C_drewN ?_ _) | (with_reducible refine Kd.C_drew ?_))); (case side2 => exact HC548.out); rintro e w' ⟨rfl, ⟨nd, rfl⟩⟩))
          go_roundg k1
          case measure => have := HK1.out; omega
          case rel => exact ⟨(wrap64 (x8_1 + 1)), (by first | rfl | (simp; done) | (simp [*]; done)), H', ⟨by have := HK1.out; omega⟩, ⟨by (with_reducible repeat (first | refine blk_drewN ?_ _ | refine blk_drew ?_ | refine blk_alloc ?_ _)); exact BK544.out⟩, ⟨tb HB⟩⟩
        ·rw [if_neg c11] at H
         exact absurd H (by simp)
       ·replace c9 := Bool.eq_false_iff.mpr c9
        subst c9
        have H1 : (some false) = some r := by rw [if_neg (show ¬ (false = true) by decide)] at H; exact H
        clear H
        have H := H1
        clear H1
        obtain rfl := Option.some.inj H
        have p546 : 0 ≤ (x8_1 : Int) := od
        have q546 : x8_1 < (l0_0.length : Int) := od
        obtain ⟨ad546, e546, hx546_0⟩ := Kd.at_int HR0_0.out x8_1 p546 q546
        cases e546
        replace hx546_0 := (HB.out.cell (World.block_lt_of_cell? w _ hx546_0)).trans hx546_0
        replace p546 := eq_true p546
        replace q546 := eq_true q546
        go_wp2_with (first | (go_at_call 120; (with_reducible refine (impl_ValOk.calls (rd l0_0 x8_1) false _ A8.out).mono ?_); rintro e w' ⟨rfl, ⟨nd, rfl⟩⟩))
        go_ret
        exact ⟨er, tb HB⟩
     ·rw [if_neg c6] at H
      exact absurd H (by simp)
    ·rw [if_neg c5] at H
     exact absurd H (by simp)
   ·rw [if_neg c4] at H
    have c4b0 := decide_eq_false c4
    clear c4
    by_cases c18 : (l0_0.length : Int) = 4
    ·rw [if_pos c18] at H
     have c18b0 : ((l0_0.length : Int) == 4) = true := beq_iff_eq.mpr c18
     have c18b1 : ((l0_0.length : Int) != 4) = false := bne_eq_false_iff_eq.mpr c18
     clear c18
     replace H := Option.bind_eq_some_iff.mp H
     obtain ⟨t545, A190, H⟩ := H
     replace H : (some t545) = some r := H
     have A19 := Aside0.mk A190
     clear A190
     obtain rfl := Option.some.inj H
     obtain ⟨hcz20_0, hcz20_1, hfz20_0, hfz20_1⟩ := c2 BK544
     go_wp2_with (first | (go_at_call 85; (with_reducible refine (impl_from.calls a0_1 0 5 t545 _ A19.out).mono ?_); rintro e w' ⟨rfl, ⟨nd, rfl⟩⟩))
     go_ret
     exact ⟨er, tb HB⟩
    ·rw [if_neg c18] at H
     have c18b0 : ((l0_0.length : Int) == 4) = false := beq_eq_false_iff_ne.mpr c18
     have c18b1 : ((l0_0.length : Int) != 4) = true := bne_iff_ne.mpr c18
     obtain rfl := Option.some.inj H
     obtain ⟨hcz21_0, hcz21_1, hfz21_0, hfz21_1⟩ := c2 BK544
     go_wp2
     go_ret
     exact ⟨er, tb HB⟩
def impl_KeyOf.f (k : Nat) (l0_0 : List Int) (a0_1 : Int) (a1 : Int) : Option (Int) := (slices_Index_int_int.f k l0_0 a1).bind fun t551 => (some t551)
theorem impl_KeyOf.mono : ∀ a0 a1 a2 k, LeO (impl_KeyOf.f k a0 a1 a2) (impl_KeyOf.f (k + 1) a0 a1 a2) := by
 intro a0 a1 a2 k
 unfold impl_KeyOf.f
 repeat' first
   | (with_reducible exact slices_Index_int_int.mono _ _ _)
   | (with_reducible exact LeO.refl _)
   | (with_reducible exact LeO.none _)
   | (with_reducible refine LeO.ite ?_ ?_)
   | (with_reducible refine LeO.bind ?_ (fun _ => ?_))
   | exact slices_Index_int_int.mono _ _ _
   | exact LeO.none _
   | refine LeO.ite ?_ ?_
   | refine LeO.bind ?_ (fun _ => ?_)
set_option maxHeartbeats 8000000 in
set_option maxRecDepth 100000 in
theorem impl_KeyOf.calls (k : Nat) (A0_0 : Option Addr) (c0_0 : Nat) (l0_0 : List Int) (a0_1 : Int) (a1 : Int) (r : Int) (w : World) (hr0_0 : Kd.C (Kd.int .i64) w A0_0 l0_0.length l0_0) (hc0_0 : l0_0.length ≤ c0_0) (h : impl_KeyOf.f k l0_0 a0_1 a1 = some r) :
  Calls Try.prog 161 #[.agg #[.slice A0_0 l0_0.length c0_0, .int .i64 a0_1], .int .i64 a1] w fun e w' => e = .returned (.int .i64 r) ∧ Below w.heap.size w w' := by
 have hu65 := Try.underlying65
 have HR0_0 := Aside0.mk hr0_0
 have HC0_0 := Aside0.mk hc0_0
 clear hr0_0 hc0_0
 have HB := Aside0.mk (Below.refl w.heap.size w)
 have H : ((slices_Index_int_int.f k l0_0 a1).bind fun t551 => (some t551)) = some r := h
 clear h
 replace H := Option.bind_eq_some_iff.mp H
 obtain ⟨t551, A30, H⟩ := H
 replace H : (some t551) = some r := H
 have A3 := Aside0.mk A30
 clear A30
 obtain rfl := Option.some.inj H
 go_enter Try.func161, Try.ntmps161
 go_wp2_with (first | ((with_reducible refine gate_dst (N := 2) rfl ?_); refine bx (N := 2) (cs := #[.slice A0_0 l0_0.length c0_0, .int .i64 a0_1]) (t := 65) ?_; intro gb550 hg w4 hbox hb; have BK550 := Aside0.mk (hbox); have GW550 := Aside0.mk (ge_ hg HB); have GE550 := Aside0.mk (ge_ hg HB); replace HB := bs HB hb; clear hb hbox hg; obtain ⟨hcz5_0, hcz5_1, hfz5_0, hfz5_1⟩ := c2 BK550) | ((with_reducible refine gate_callee (f := 167) rfl ?_); refine gL 8 Try.func167 #[.slice A0_0 l0_0.length c0_0, .int .i64 a1] ?_; (with_reducible refine (slices_Index_int_int.calls k _ _ l0_0 a1 t551 _ ?side1 ?side2 A3.out).mono ?_); (case side1 => exact kc HR0_0 HB); (case side2 => exact HC0_0.out); rintro e w' ⟨rfl, ⟨nd, rfl⟩⟩; refine ⟨_, rfl, ?_⟩))
 go_ret
 exact ⟨er, tb HB⟩
def impl_made.f (l0_0 : List Int) (a0_1 : Int) : Option (Bool) := some (a0_1 == 5)
set_option maxHeartbeats 8000000 in
set_option maxRecDepth 100000 in
theorem impl_made.calls (A0_0 : Option Addr) (c0_0 : Nat) (l0_0 : List Int) (a0_1 : Int) (r : Bool) (w : World) (hr0_0 : Kd.C (Kd.int .i64) w A0_0 l0_0.length l0_0) (hc0_0 : l0_0.length ≤ c0_0) (h : impl_made.f l0_0 a0_1 = some r) :
  Calls Try.prog 162 #[.agg #[.slice A0_0 l0_0.length c0_0, .int .i64 a0_1]] w fun e w' => e = .returned (.bool r) ∧ Below w.heap.size w w' := by
 have hu65 := Try.underlying65
 have HR0_0 := Aside0.mk hr0_0
 have HC0_0 := Aside0.mk hc0_0
 clear hr0_0 hc0_0
 have HB := Aside0.mk (Below.refl w.heap.size w)
 have H : (some (a0_1 == 5)) = some r := h
 clear h
 obtain rfl := Option.some.inj H
 go_enter Try.func162, Try.ntmps162
 go_wp2_with (first | ((with_reducible refine gate_dst (N := 1) rfl ?_); refine bx (N := 1) (cs := #[.slice A0_0 l0_0.length c0_0, .int .i64 a0_1]) (t := 65) ?_; intro gb552 hg w2 hbox hb; have BK552 := Aside0.mk (hbox); have GW552 := Aside0.mk (ge_ hg HB); have GE552 := Aside0.mk (ge_ hg HB); replace HB := bs HB hb; clear hb hbox hg; obtain ⟨hcz3_0, hcz3_1, hfz3_0, hfz3_1⟩ := c2 BK552))
 go_ret
 exact ⟨er, tb HB⟩
mutual
def impl_refusal.j0 : Nat → Int → Int → Bool → List Int → Int → Int → Int → Int → Option (Bool)
 | 0, _, _, _, _, _, _, _, _ => none
 | k + 1, x2, x7, x42, x554000, x554001, x555000, x555001, x555002 => if x42 = true then (if 0 ≤ x555001 then (if x555001 < (x554000.length : Int) then (some ((rd x554000 x555001) == 0)) else (none)) else (none)) else (if x2 = 3 then (if x7 < 0 then (if x555000 = 5 then (some true) else (if x555000 = 10 then ((impl_made.f x554000 x554001).bind fun t558 => (some t558)) else (some false))) else (some false)) else (if x2 = 4 then (impl_refusal.j1 k x2 (x555000 == 8) x554000 x554001 x555000 x555001 x555002) else (impl_refusal.j1 k x2 false x554000 x554001 x555000 x555001 x555002)))
def impl_refusal.j1 : Nat → Int → Bool → List Int → Int → Int → Int → Int → Option (Bool)
 | 0, _, _, _, _, _, _, _ => none
 | k + 1, x2, x86, x554000, x554001, x555000, x555001, x555002 => if x86 = true then (some (x554001 != 0)) else (if x2 = 4 then (impl_refusal.j2 k x2 (x555000 == 9) x554000 x554001 x555000 x555001 x555002) else (impl_refusal.j2 k x2 false x554000 x554001 x555000 x555001 x555002))
def impl_refusal.j2 : Nat → Int → Bool → List Int → Int → Int → Int → Int → Option (Bool)
 | 0, _, _, _, _, _, _, _ => none
 | k + 1, x2, x97, x554000, x554001, x555000, x555001, x555002 => if x97 = true then (if x554001 = 0 then (some true) else ((impl_made.f x554000 x554001).bind fun t559 => (some t559))) else (if x2 = 4 then (if x555000 = 10 then ((impl_made.f x554000 x554001).bind fun t560 => (some (!t560))) else (some false)) else (some false))
end
def impl_refusal.f (k : Nat) (l0_0 : List Int) (a0_1 : Int) (a1_0 : Int) (a1_1 : Int) (a1_2 : Int) (a2 : Int) : Option (Bool) := (impl_KeyOf.f k l0_0 a0_1 a1_2).bind fun t555 => (if a2 = 1 then (if a1_0 = 1 then (if 0 ≤ a1_1 then (if a1_1 < (l0_0.length : Int) then (some ((rd l0_0 a1_1) != 0)) else (none)) else (none)) else (some false)) else (if a2 = 2 then (if a1_0 = 1 then (some (decide (t555 ≥ 0))) else (if a1_0 = 2 then (some (decide (t555 ≥ 0))) else (some false))) else (if a2 = 3 then (if a1_0 = 2 then (impl_refusal.j0 k a2 t555 true l0_0 a0_1 a1_0 a1_1 a1_2) else (if a1_0 = 3 then (impl_refusal.j0 k a2 t555 true l0_0 a0_1 a1_0 a1_1 a1_2) else (impl_refusal.j0 k a2 t555 (a1_0 == 4) l0_0 a0_1 a1_0 a1_1 a1_2))) else (impl_refusal.j0 k a2 t555 false l0_0 a0_1 a1_0 a1_1 a1_2))))
theorem impl_refusal.mono_l : ∀ k, (∀ y0 y1 y2 y3 y4 y5 y6 y7, LeO (impl_refusal.j0 k y0 y1 y2 y3 y4 y5 y6 y7) (impl_refusal.j0 (k + 1) y0 y1 y2 y3 y4 y5 y6 y7)) ∧ (∀ y0 y1 y2 y3 y4 y5 y6, LeO (impl_refusal.j1 k y0 y1 y2 y3 y4 y5 y6) (impl_refusal.j1 (k + 1) y0 y1 y2 y3 y4 y5 y6)) ∧ (∀ y0 y1 y2 y3 y4 y5 y6, LeO (impl_refusal.j2 k y0 y1 y2 y3 y4 y5 y6) (impl_refusal.j2 (k + 1) y0 y1 y2 y3 y4 y5 y6))
 | 0 => ⟨fun _ _ _ _ _ _ _ _ r h => by simp [impl_refusal.j0] at h, fun _ _ _ _ _ _ _ r h => by simp [impl_refusal.j1] at h, fun _ _ _ _ _ _ _ r h => by simp [impl_refusal.j2] at h⟩
 | k + 1 => by
  obtain ⟨ih0, ih1, ih2⟩ := impl_refusal.mono_l k
  refine ⟨?_, ?_, ?_⟩
  ·intro y0 y1 y2 y3 y4 y5 y6 y7
   unfold impl_refusal.j0
   repeat' first
   | (with_reducible exact ih0 _ _ _ _ _ _ _ _)
   | (with_reducible exact ih1 _ _ _ _ _ _ _)
   | (with_reducible exact ih2 _ _ _ _ _ _ _)
   | (with_reducible exact impl_KeyOf.mono _ _ _ _)
   | (with_reducible exact LeO.refl _)
   | (with_reducible exact LeO.none _)
   | (with_reducible refine LeO.ite ?_ ?_)
   | (with_reducible refine LeO.bind ?_ (fun _ => ?_))
   | exact ih0 _ _ _ _ _ _ _ _
   | exact ih1 _ _ _ _ _ _ _
   | exact ih2 _ _ _ _ _ _ _
   | exact impl_KeyOf.mono _ _ _ _
   | exact LeO.none _
   | refine LeO.ite ?_ ?_
   | refine LeO.bind ?_ (fun _ => ?_)
  ·intro y0 y1 y2 y3 y4 y5 y6
   unfold impl_refusal.j1
   repeat' first
   | (with_reducible exact ih0 _ _ _ _ _ _ _ _)
   | (with_reducible exact ih1 _ _ _ _ _ _ _)
   | (with_reducible exact ih2 _ _ _ _ _ _ _)
   | (with_reducible exact impl_KeyOf.mono _ _ _ _)
   | (with_reducible exact LeO.refl _)
   | (with_reducible exact LeO.none _)
   | (with_reducible refine LeO.ite ?_ ?_)
   | (with_reducible refine LeO.bind ?_ (fun _ => ?_))
   | exact ih0 _ _ _ _ _ _ _ _
   | exact ih1 _ _ _ _ _ _ _
   | exact ih2 _ _ _ _ _ _ _
   | exact impl_KeyOf.mono _ _ _ _
   | exact LeO.none _
   | refine LeO.ite ?_ ?_
   | refine LeO.bind ?_ (fun _ => ?_)
  ·intro y0 y1 y2 y3 y4 y5 y6
   unfold impl_refusal.j2
   repeat' first
   | (with_reducible exact ih0 _ _ _ _ _ _ _ _)
   | (with_reducible exact ih1 _ _ _ _ _ _ _)
   | (with_reducible exact ih2 _ _ _ _ _ _ _)
   | (with_reducible exact impl_KeyOf.mono _ _ _ _)
   | (with_reducible exact LeO.refl _)
   | (with_reducible exact LeO.none _)
   | (with_reducible refine LeO.ite ?_ ?_)
   | (with_reducible refine LeO.bind ?_ (fun _ => ?_))
   | exact ih0 _ _ _ _ _ _ _ _
   | exact ih1 _ _ _ _ _ _ _
   | exact ih2 _ _ _ _ _ _ _
   | exact impl_KeyOf.mono _ _ _ _
   | exact LeO.none _
   | refine LeO.ite ?_ ?_
   | refine LeO.bind ?_ (fun _ => ?_)
theorem impl_refusal.mono : ∀ a0 a1 a2 a3 a4 a5 k, LeO (impl_refusal.f k a0 a1 a2 a3 a4 a5) (impl_refusal.f (k + 1) a0 a1 a2 a3 a4 a5) := by
 intro a0 a1 a2 a3 a4 a5 k
 obtain ⟨ih0, ih1, ih2⟩ := impl_refusal.mono_l k
 unfold impl_refusal.f
 repeat' first
   | (with_reducible exact ih0 _ _ _ _ _ _ _ _)
   | (with_reducible exact ih1 _ _ _ _ _ _ _)
   | (with_reducible exact ih2 _ _ _ _ _ _ _)
   | (with_reducible exact impl_KeyOf.mono _ _ _ _)
   | (with_reducible exact LeO.refl _)
   | (with_reducible exact LeO.none _)
   | (with_reducible refine LeO.ite ?_ ?_)
   | (with_reducible refine LeO.bind ?_ (fun _ => ?_))
   | exact ih0 _ _ _ _ _ _ _ _
   | exact ih1 _ _ _ _ _ _ _
   | exact ih2 _ _ _ _ _ _ _
   | exact impl_KeyOf.mono _ _ _ _
   | exact LeO.none _
   | refine LeO.ite ?_ ?_
   | refine LeO.bind ?_ (fun _ => ?_)
set_option maxHeartbeats 8000000 in
set_option maxRecDepth 100000 in
theorem impl_refusal.calls (k : Nat) (A0_0 : Option Addr) (c0_0 : Nat) (l0_0 : List Int) (a0_1 : Int) (a1_0 : Int) (a1_1 : Int) (a1_2 : Int) (a2 : Int) (r : Bool) (w : World) (hr0_0 : Kd.C (Kd.int .i64) w A0_0 l0_0.length l0_0) (hc0_0 : l0_0.length ≤ c0_0) (h : impl_refusal.f k l0_0 a0_1 a1_0 a1_1 a1_2 a2 = some r) :
  Calls Try.prog 109 #[.agg #[.slice A0_0 l0_0.length c0_0, .int .i64 a0_1], .agg #[.int .i64 a1_0, .int .i64 a1_1, .int .i64 a1_2], .int .i64 a2] w fun e w' => e = .returned (.bool r) ∧ Below w.heap.size w w' := by
 have hu65 := Try.underlying65
 have hu68 := Try.underlying68
 have HR0_0 := Aside0.mk hr0_0
 have HC0_0 := Aside0.mk hc0_0
 clear hr0_0 hc0_0
 have HB := Aside0.mk (Below.refl w.heap.size w)
 have H : ((impl_KeyOf.f k l0_0 a0_1 a1_2).bind fun t555 => (if a2 = 1 then (if a1_0 = 1 then (if 0 ≤ a1_1 then (if a1_1 < (l0_0.length : Int) then (some ((rd l0_0 a1_1) != 0)) else (none)) else (none)) else (some false)) else (if a2 = 2 then (if a1_0 = 1 then (some (decide (t555 ≥ 0))) else (if a1_0 = 2 then (some (decide (t555 ≥ 0))) else (some false))) else (if a2 = 3 then (if a1_0 = 2 then (impl_refusal.j0 k a2 t555 true l0_0 a0_1 a1_0 a1_1 a1_2) else (if a1_0 = 3 then (impl_refusal.j0 k a2 t555 true l0_0 a0_1 a1_0 a1_1 a1_2) else (impl_refusal.j0 k a2 t555 (a1_0 == 4) l0_0 a0_1 a1_0 a1_1 a1_2))) else (impl_refusal.j0 k a2 t555 false l0_0 a0_1 a1_0 a1_1 a1_2))))) = some r := h
 clear h
 replace H := Option.bind_eq_some_iff.mp H
 obtain ⟨t555, A40, H⟩ := H
 replace H : (if a2 = 1 then (if a1_0 = 1 then (if 0 ≤ a1_1 then (if a1_1 < (l0_0.length : Int) then (some ((rd l0_0 a1_1) != 0)) else (none)) else (none)) else (some false)) else (if a2 = 2 then (if a1_0 = 1 then (some (decide (t555 ≥ 0))) else (if a1_0 = 2 then (some (decide (t555 ≥ 0))) else (some false))) else (if a2 = 3 then (if a1_0 = 2 then (impl_refusal.j0 k a2 t555 true l0_0 a0_1 a1_0 a1_1 a1_2) else (if a1_0 = 3 then (impl_refusal.j0 k a2 t555 true l0_0 a0_1 a1_0 a1_1 a1_2) else (impl_refusal.j0 k a2 t555 (a1_0 == 4) l0_0 a0_1 a1_0 a1_1 a1_2))) else (impl_refusal.j0 k a2 t555 false l0_0 a0_1 a1_0 a1_1 a1_2)))) = some r := H
 have A4 := Aside0.mk A40
 clear A40
 by_cases c5 : a2 = 1
 ·rw [if_pos c5] at H
  have c5b0 : (a2 == 1) = true := beq_iff_eq.mpr c5
  have c5b1 : (a2 != 1) = false := bne_eq_false_iff_eq.mpr c5
  clear c5
  by_cases c6 : a1_0 = 1
  ·rw [if_pos c6] at H
   have c6b0 : (a1_0 == 1) = true := beq_iff_eq.mpr c6
   have c6b1 : (a1_0 != 1) = false := bne_eq_false_iff_eq.mpr c6
   clear c6
   by_cases c7 : 0 ≤ a1_1
   ·rw [if_pos c7] at H
    have c7b0 := decide_eq_true c7
    clear c7
    by_cases c8 : a1_1 < (l0_0.length : Int)
    ·rw [if_pos c8] at H
     have c8b0 := decide_eq_true c8
     clear c8
     obtain rfl := Option.some.inj H
     go_enter Try.func109, Try.ntmps109
     go_wp2_with (first | ((with_reducible refine gate_dst (N := 3) rfl ?_); refine bx (N := 3) (cs := #[.slice A0_0 l0_0.length c0_0, .int .i64 a0_1]) (t := 65) ?_; intro gb553 hg w9 hbox hb; have BK553 := Aside0.mk (hbox); have GW553 := Aside0.mk (ge_ hg HB); have GE553 := Aside0.mk (ge_ hg HB); replace HB := bs HB hb; clear hb hbox hg) | ((with_reducible refine gate_dst (N := 4) rfl ?_); refine bx (N := 4) (cs := #[.int .i64 a1_0, .int .i64 a1_1, .int .i64 a1_2]) (t := 68) ?_; intro gb554 hg w10 hbox hb; have BK554 := Aside0.mk (hbox); have GW554 := Aside0.mk (ge_ hg HB); have GE554 := Aside0.mk (ge_ hg HB); replace HB := bs HB hb; have NB553_554 := Aside0.mk (nl_ hg BK553); have NB554_553 := Aside0.mk (ng_ hg BK553); replace BK553 := bb BK553 hb; clear hb hbox hg; have hnb11 := NB553_554.out; have hnc11 := NB554_553.out; obtain ⟨hcz12_0, hcz12_1, hfz12_0, hfz12_1⟩ := c2 BK553; obtain ⟨hcz13_0, hcz13_1, hcz13_2, hfz13_0, hfz13_1, hfz13_2⟩ := c3 BK554) | ((with_reducible refine gate_callee (f := 161) rfl ?_); refine gL 11 Try.func161 #[.agg #[.slice A0_0 l0_0.length c0_0, .int .i64 a0_1], .int .i64 a1_2] ?_; (with_reducible refine (impl_KeyOf.calls k _ _ l0_0 a0_1 a1_2 t555 _ ?side1 ?side2 A4.out).mono ?_); (case side1 => exact kc HR0_0 HB); (case side2 => exact HC0_0.out); rintro e w14 ⟨rfl, hb⟩; refine ⟨_, rfl, ?_⟩; replace BK553 := bb BK553 hb; replace BK554 := bb BK554 hb; replace HB := bs HB hb; (try clear hb); (try clear hb2); (try clear hk); (try clear hi); obtain ⟨hcz15_0, hcz15_1, hcz15_2, hfz15_0, hfz15_1, hfz15_2⟩ := c3 BK554; obtain ⟨hcz16_0, hcz16_1, hfz16_0, hfz16_1⟩ := c2 BK553; have p556 : 0 ≤ (a1_1 : Int) := od; have q556 : a1_1 < (l0_0.length : Int) := od; obtain ⟨ad556, e556, hx556_0⟩ := Kd.at_int HR0_0.out a1_1 p556 q556; cases e556; replace hx556_0 := (HB.out.cell (World.block_lt_of_cell? w _ hx556_0)).trans hx556_0; replace p556 := eq_true p556; replace q556 := eq_true q556))
     go_ret
     exact ⟨er, tb HB⟩
    ·rw [if_neg c8] at H
     exact absurd H (by simp)
   ·rw [if_neg c7] at H
    exact absurd H (by simp)
  ·rw [if_neg c6] at H
   have c6b0 : (a1_0 == 1) = false := beq_eq_false_iff_ne.mpr c6
   have c6b1 : (a1_0 != 1) = true := bne_iff_ne.mpr c6
   obtain rfl := Option.some.inj H
   go_enter Try.func109, Try.ntmps109
   go_wp2_with (first | ((with_reducible refine gate_dst (N := 3) rfl ?_); refine bx (N := 3) (cs := #[.slice A0_0 l0_0.length c0_0, .int .i64 a0_1]) (t := 65) ?_; intro gb553 hg w17 hbox hb; have BK553 := Aside0.mk (hbox); have GW553 := Aside0.mk (ge_ hg HB); have GE553 := Aside0.mk (ge_ hg HB); replace HB := bs HB hb; clear hb hbox hg) | ((with_reducible refine gate_dst (N := 4) rfl ?_); refine bx (N := 4) (cs := #[.int .i64 a1_0, .int .i64 a1_1, .int .i64 a1_2]) (t := 68) ?_; intro gb554 hg w18 hbox hb; have BK554 := Aside0.mk (hbox); have GW554 := Aside0.mk (ge_ hg HB); have GE554 := Aside0.mk (ge_ hg HB); replace HB := bs HB hb; have NB553_554 := Aside0.mk (nl_ hg BK553); have NB554_553 := Aside0.mk (ng_ hg BK553); replace BK553 := bb BK553 hb; clear hb hbox hg; have hnb19 := NB553_554.out; have hnc19 := NB554_553.out; obtain ⟨hcz20_0, hcz20_1, hfz20_0, hfz20_1⟩ := c2 BK553; obtain ⟨hcz21_0, hcz21_1, hcz21_2, hfz21_0, hfz21_1, hfz21_2⟩ := c3 BK554) | ((with_reducible refine gate_callee (f := 161) rfl ?_); refine gL 11 Try.func161 #[.agg #[.slice A0_0 l0_0.length c0_0, .int .i64 a0_1], .int .i64 a1_2] ?_; (with_reducible refine (impl_KeyOf.calls k _ _ l0_0 a0_1 a1_2 t555 _ ?side1 ?side2 A4.out).mono ?_); (case side1 => exact kc HR0_0 HB); (case side2 => exact HC0_0.out); rintro e w22 ⟨rfl, hb⟩; refine ⟨_, rfl, ?_⟩; replace BK553 := bb BK553 hb; replace BK554 := bb BK554 hb; replace HB := bs HB hb; (try clear hb); (try clear hb2); (try clear hk); (try clear hi); obtain ⟨hcz23_0, hcz23_1, hcz23_2, hfz23_0, hfz23_1, hfz23_2⟩ := c3 BK554))
   go_ret
   exact ⟨er, tb HB⟩
 ·rw [if_neg c5] at H
  have c5b0 : (a2 == 1) = false := beq_eq_false_iff_ne.mpr c5
  have c5b1 : (a2 != 1) = true := bne_iff_ne.mpr c5
  by_cases c24 : a2 = 2
  ·rw [if_pos c24] at H
   have c24b0 : (a2 == 2) = true := beq_iff_eq.mpr c24
   have c24b1 : (a2 != 2) = false := bne_eq_false_iff_eq.mpr c24
   clear c24
   by_cases c25 : a1_0 = 1
   ·rw [if_pos c25] at H
    have c25b0 : (a1_0 == 1) = true := beq_iff_eq.mpr c25
    have c25b1 : (a1_0 != 1) = false := bne_eq_false_iff_eq.mpr c25
    clear c25
    obtain rfl := Option.some.inj H
    go_enter Try.func109, Try.ntmps109
    go_wp2_with (first | ((with_reducible refine gate_dst (N := 3) rfl ?_); refine bx (N := 3) (cs := #[.slice A0_0 l0_0.length c0_0, .int .i64 a0_1]) (t := 65) ?_; intro gb553 hg w26 hbox hb; have BK553 := Aside0.mk (hbox); have GW553 := Aside0.mk (ge_ hg HB); have GE553 := Aside0.mk (ge_ hg HB); replace HB := bs HB hb; clear hb hbox hg) | ((with_reducible refine gate_dst (N := 4) rfl ?_); refine bx (N := 4) (cs := #[.int .i64 a1_0, .int .i64 a1_1, .int .i64 a1_2]) (t := 68) ?_; intro gb554 hg w27 hbox hb; have BK554 := Aside0.mk (hbox); have GW554 := Aside0.mk (ge_ hg HB); have GE554 := Aside0.mk (ge_ hg HB); replace HB := bs HB hb; have NB553_554 := Aside0.mk (nl_ hg BK553); have NB554_553 := Aside0.mk (ng_ hg BK553); replace BK553 := bb BK553 hb; clear hb hbox hg; have hnb28 := NB553_554.out; have hnc28 := NB554_553.out; obtain ⟨hcz29_0, hcz29_1, hfz29_0, hfz29_1⟩ := c2 BK553; obtain ⟨hcz30_0, hcz30_1, hcz30_2, hfz30_0, hfz30_1, hfz30_2⟩ := c3 BK554) | ((with_reducible refine gate_callee (f := 161) rfl ?_); refine gL 11 Try.func161 #[.agg #[.slice A0_0 l0_0.length c0_0, .int .i64 a0_1], .int .i64 a1_2] ?_; (with_reducible refine (impl_KeyOf.calls k _ _ l0_0 a0_1 a1_2 t555 _ ?side1 ?side2 A4.out).mono ?_); (case side1 => exact kc HR0_0 HB); (case side2 => exact HC0_0.out); rintro e w31 ⟨rfl, hb⟩; refine ⟨_, rfl, ?_⟩; replace BK553 := bb BK553 hb; replace BK554 := bb BK554 hb; replace HB := bs HB hb; (try clear hb); (try clear hb2); (try clear hk); (try clear hi); obtain ⟨hcz32_0, hcz32_1, hcz32_2, hfz32_0, hfz32_1, hfz32_2⟩ := c3 BK554))
    go_ret
    exact ⟨er, tb HB⟩
   ·rw [if_neg c25] at H
    have c25b0 : (a1_0 == 1) = false := beq_eq_false_iff_ne.mpr c25
    have c25b1 : (a1_0 != 1) = true := bne_iff_ne.mpr c25
    by_cases c33 : a1_0 = 2
    ·rw [if_pos c33] at H
     have c33b0 : (a1_0 == 2) = true := beq_iff_eq.mpr c33
     have c33b1 : (a1_0 != 2) = false := bne_eq_false_iff_eq.mpr c33
     clear c33
     obtain rfl := Option.some.inj H
     go_enter Try.func109, Try.ntmps109
     go_wp2_with (first | ((with_reducible refine gate_dst (N := 3) rfl ?_); refine bx (N := 3) (cs := #[.slice A0_0 l0_0.length c0_0, .int .i64 a0_1]) (t := 65) ?_; intro gb553 hg w34 hbox hb; have BK553 := Aside0.mk (hbox); have GW553 := Aside0.mk (ge_ hg HB); have GE553 := Aside0.mk (ge_ hg HB); replace HB := bs HB hb; clear hb hbox hg) | ((with_reducible refine gate_dst (N := 4) rfl ?_); refine bx (N := 4) (cs := #[.int .i64 a1_0, .int .i64 a1_1, .int .i64 a1_2]) (t := 68) ?_; intro gb554 hg w35 hbox hb; have BK554 := Aside0.mk (hbox); have GW554 := Aside0.mk (ge_ hg HB); have GE554 := Aside0.mk (ge_ hg HB); replace HB := bs HB hb; have NB553_554 := Aside0.mk (nl_ hg BK553); have NB554_553 := Aside0.mk (ng_ hg BK553); replace BK553 := bb BK553 hb; clear hb hbox hg; have hnb36 := NB553_554.out; have hnc36 := NB554_553.out; obtain ⟨hcz37_0, hcz37_1, hfz37_0, hfz37_1⟩ := c2 BK553; obtain ⟨hcz38_0, hcz38_1, hcz38_2, hfz38_0, hfz38_1, hfz38_2⟩ := c3 BK554) | ((with_reducible refine gate_callee (f := 161) rfl ?_); refine gL 11 Try.func161 #[.agg #[.slice A0_0 l0_0.length c0_0, .int .i64 a0_1], .int .i64 a1_2] ?_; (with_reducible refine (impl_KeyOf.calls k _ _ l0_0 a0_1 a1_2 t555 _ ?side1 ?side2 A4.out).mono ?_); (case side1 => exact kc HR0_0 HB); (case side2 => exact HC0_0.out); rintro e w39 ⟨rfl, hb⟩; refine ⟨_, rfl, ?_⟩; replace BK553 := bb BK553 hb; replace BK554 := bb BK554 hb; replace HB := bs HB hb; (try clear hb); (try clear hb2); (try clear hk); (try clear hi); obtain ⟨hcz40_0, hcz40_1, hcz40_2, hfz40_0, hfz40_1, hfz40_2⟩ := c3 BK554))
     go_ret
     exact ⟨er, tb HB⟩
    ·rw [if_neg c33] at H
     have c33b0 : (a1_0 == 2) = false := beq_eq_false_iff_ne.mpr c33
     have c33b1 : (a1_0 != 2) = true := bne_iff_ne.mpr c33
     obtain rfl := Option.some.inj H
     go_enter Try.func109, Try.ntmps109
     go_wp2_with (first | ((with_reducible refine gate_dst (N := 3) rfl ?_); refine bx (N := 3) (cs := #[.slice A0_0 l0_0.length c0_0, .int .i64 a0_1]) (t := 65) ?_; intro gb553 hg w41 hbox hb; have BK553 := Aside0.mk (hbox); have GW553 := Aside0.mk (ge_ hg HB); have GE553 := Aside0.mk (ge_ hg HB); replace HB := bs HB hb; clear hb hbox hg) | ((with_reducible refine gate_dst (N := 4) rfl ?_); refine bx (N := 4) (cs := #[.int .i64 a1_0, .int .i64 a1_1, .int .i64 a1_2]) (t := 68) ?_; intro gb554 hg w42 hbox hb; have BK554 := Aside0.mk (hbox); have GW554 := Aside0.mk (ge_ hg HB); have GE554 := Aside0.mk (ge_ hg HB); replace HB := bs HB hb; have NB553_554 := Aside0.mk (nl_ hg BK553); have NB554_553 := Aside0.mk (ng_ hg BK553); replace BK553 := bb BK553 hb; clear hb hbox hg; have hnb43 := NB553_554.out; have hnc43 := NB554_553.out; obtain ⟨hcz44_0, hcz44_1, hfz44_0, hfz44_1⟩ := c2 BK553; obtain ⟨hcz45_0, hcz45_1, hcz45_2, hfz45_0, hfz45_1, hfz45_2⟩ := c3 BK554) | ((with_reducible refine gate_callee (f := 161) rfl ?_); refine gL 11 Try.func161 #[.agg #[.slice A0_0 l0_0.length c0_0, .int .i64 a0_1], .int .i64 a1_2] ?_; (with_reducible refine (impl_KeyOf.calls k _ _ l0_0 a0_1 a1_2 t555 _ ?side1 ?side2 A4.out).mono ?_); (case side1 => exact kc HR0_0 HB); (case side2 => exact HC0_0.out); rintro e w46 ⟨rfl, hb⟩; refine ⟨_, rfl, ?_⟩; replace BK553 := bb BK553 hb; replace BK554 := bb BK554 hb; replace HB := bs HB hb; (try clear hb); (try clear hb2); (try clear hk); (try clear hi); obtain ⟨hcz47_0, hcz47_1, hcz47_2, hfz47_0, hfz47_1, hfz47_2⟩ := c3 BK554))
     go_ret
     exact ⟨er, tb HB⟩
  ·rw [if_neg c24] at H
   have c24b0 : (a2 == 2) = false := beq_eq_false_iff_ne.mpr c24
   have c24b1 : (a2 != 2) = true := bne_iff_ne.mpr c24
   have HC48 := Aside0.mk H
   clear H
   go_enter Try.func109, Try.ntmps109
   go_upto_region 6 with (first | ((with_reducible refine gate_dst (N := 3) rfl ?_); refine bx (N := 3) (cs := #[.slice A0_0 l0_0.length c0_0, .int .i64 a0_1]) (t := 65) ?_; intro gb553 hg w49 hbox hb; have BK553 := Aside0.mk (hbox); have GW553 := Aside0.mk (ge_ hg HB); have GE553 := Aside0.mk (ge_ hg HB); replace HB := bs HB hb; clear hb hbox hg) | ((with_reducible refine gate_dst (N := 4) rfl ?_); refine bx (N := 4) (cs := #[.int .i64 a1_0, .int .i64 a1_1, .int .i64 a1_2]) (t := 68) ?_; intro gb554 hg w50 hbox hb; have BK554 := Aside0.mk (hbox); have GW554 := Aside0.mk (ge_ hg HB); have GE554 := Aside0.mk (ge_ hg HB); replace HB := bs HB hb; have NB553_554 := Aside0.mk (nl_ hg BK553); have NB554_553 := Aside0.mk (ng_ hg BK553); replace BK553 := bb BK553 hb; clear hb hbox hg; have hnb51 := NB553_554.out; have hnc51 := NB554_553.out; obtain ⟨hcz52_0, hcz52_1, hfz52_0, hfz52_1⟩ := c2 BK553; obtain ⟨hcz53_0, hcz53_1, hcz53_2, hfz53_0, hfz53_1, hfz53_2⟩ := c3 BK554) | ((with_reducible refine gate_callee (f := 161) rfl ?_); refine gL 11 Try.func161 #[.agg #[.slice A0_0 l0_0.length c0_0, .int .i64 a0_1], .int .i64 a1_2] ?_; (with_reducible refine (impl_KeyOf.calls k _ _ l0_0 a0_1 a1_2 t555 _ ?side1 ?side2 A4.out).mono ?_); (case side1 => exact kc HR0_0 HB); (case side2 => exact HC0_0.out); rintro e w54 ⟨rfl, hb⟩; refine ⟨_, rfl, ?_⟩; replace BK553 := bb BK553 hb; replace BK554 := bb BK554 hb; replace HB := bs HB hb; (try clear hb); (try clear hb2); (try clear hk); (try clear hi)))
   (try simp only [Act.put, sA, sB, sC])
   go_cut [42] (fun v42 wc => ∃ (kq : Nat) (x42_47 : Bool), v42 = .bool x42_47 ∧ Aside0 (impl_refusal.j0 kq a2 t555 x42_47 l0_0 a0_1 a1_0 a1_1 a1_2 = some r) ∧ Aside0 (kq ≤ k) ∧ Aside0 (wc.heap[gb553]? = some (.cells #[(.slice A0_0 l0_0.length c0_0), .int .i64 a0_1] 65 (0, 0))) ∧ Aside0 (wc.heap[gb554]? = some (.cells #[.int .i64 a1_0, .int .i64 a1_1, .int .i64 a1_2] 68 (0, 0))) ∧ Aside0 (Below w.heap.size w wc))
   case first =>
    have H := HC48.out
    clear HC48
    by_cases c55 : a2 = 3
    ·rw [if_pos c55] at H
     have c55b0 : (a2 == 3) = true := beq_iff_eq.mpr c55
     have c55b1 : (a2 != 3) = false := bne_eq_false_iff_eq.mpr c55
     clear c55
     (first | rw [c55b0] | (simp only [i64_w, i32_w]; rw [c55b0]) | skip)
     by_cases c56 : a1_0 = 2
     ·rw [if_pos c56] at H
      have c56b0 : (a1_0 == 2) = true := beq_iff_eq.mpr c56
      have c56b1 : (a1_0 != 2) = false := bne_eq_false_iff_eq.mpr c56
      clear c56
      have H' := Aside0.mk H
      clear H
      have hnb57 := NB554_553.out
      have hnc57 := NB553_554.out
      obtain ⟨hcz58_0, hcz58_1, hcz58_2, hfz58_0, hfz58_1, hfz58_2⟩ := c3 BK554
      go_wp2
      go_meet
      case rel => exact ⟨_, (true), (by first | rfl | (simp; done) | (simp [*]; done)), H', ⟨by first | omega | exact Nat.le_refl _⟩, ⟨by (with_reducible repeat (first | refine blk_drewN ?_ _ | refine blk_drew ?_ | refine blk_alloc ?_ _)); exact BK553.out⟩, ⟨by (with_reducible repeat (first | refine blk_drewN ?_ _ | refine blk_drew ?_ | refine blk_alloc ?_ _)); exact BK554.out⟩, ⟨tb HB⟩⟩
     ·rw [if_neg c56] at H
      have c56b0 : (a1_0 == 2) = false := beq_eq_false_iff_ne.mpr c56
      have c56b1 : (a1_0 != 2) = true := bne_iff_ne.mpr c56
      by_cases c59 : a1_0 = 3
      ·rw [if_pos c59] at H
       have c59b0 : (a1_0 == 3) = true := beq_iff_eq.mpr c59
       have c59b1 : (a1_0 != 3) = false := bne_eq_false_iff_eq.mpr c59
       clear c59
       have H' := Aside0.mk H
       clear H
       have hnb60 := NB554_553.out
       have hnc60 := NB553_554.out
       obtain ⟨hcz61_0, hcz61_1, hcz61_2, hfz61_0, hfz61_1, hfz61_2⟩ := c3 BK554
       go_wp2
       go_meet
       case rel => exact ⟨_, (true), (by first | rfl | (simp; done) | (simp [*]; done)), H', ⟨by first | omega | exact Nat.le_refl _⟩, ⟨by (with_reducible repeat (first | refine blk_drewN ?_ _ | refine blk_drew ?_ | refine blk_alloc ?_ _)); exact BK553.out⟩, ⟨by (with_reducible repeat (first | refine blk_drewN ?_ _ | refine blk_drew ?_ | refine blk_alloc ?_ _)); exact BK554.out⟩, ⟨tb HB⟩⟩
      ·rw [if_neg c59] at H
       have c59b0 : (a1_0 == 3) = false := beq_eq_false_iff_ne.mpr c59
       have c59b1 : (a1_0 != 3) = true := bne_iff_ne.mpr c59
       have H' := Aside0.mk H
       clear H
       have hnb62 := NB554_553.out
       have hnc62 := NB553_554.out
       obtain ⟨hcz63_0, hcz63_1, hcz63_2, hfz63_0, hfz63_1, hfz63_2⟩ := c3 BK554
       go_wp2
       go_meet
       case rel => exact ⟨_, ((a1_0 == 4)), (by first | rfl | (simp; done) | (simp [*]; done)), H', ⟨by first | omega | exact Nat.le_refl _⟩, ⟨by (with_reducible repeat (first | refine blk_drewN ?_ _ | refine blk_drew ?_ | refine blk_alloc ?_ _)); exact BK553.out⟩, ⟨by (with_reducible repeat (first | refine blk_drewN ?_ _ | refine blk_drew ?_ | refine blk_alloc ?_ _)); exact BK554.out⟩, ⟨tb HB⟩⟩
    ·rw [if_neg c55] at H
     have c55b0 : (a2 == 3) = false := beq_eq_false_iff_ne.mpr c55
     have c55b1 : (a2 != 3) = true := bne_iff_ne.mpr c55
     (first | rw [c55b0] | (simp only [i64_w, i32_w]; rw [c55b0]) | skip)
     have H' := Aside0.mk H
     clear H
     go_wp2
     go_meet
     case rel => exact ⟨_, (false), (by first | rfl | (simp; done) | (simp [*]; done)), H', ⟨by first | omega | exact Nat.le_refl _⟩, ⟨by (with_reducible repeat (first | refine blk_drewN ?_ _ | refine blk_drew ?_ | refine blk_alloc ?_ _)); exact BK553.out⟩, ⟨by (with_reducible repeat (first | refine blk_drewN ?_ _ | refine blk_drew ?_ | refine blk_alloc ?_ _)); exact BK554.out⟩, ⟨tb HB⟩⟩
   case rest =>
    clear HC48
    try clear c1
    try clear c2
    try clear p2
    try clear c3
    try clear c4
    try clear c5
    try clear c5b0
    try clear c5b1
    try clear p5
    try clear q5
    try clear hx5
    try clear c6
    try clear c6b0
    try clear c6b1
    try clear c7
    try clear c7b0
    try clear c8
    try clear c8b0
    try clear c10
    try clear c11
    try clear c16
    try clear c19
    try clear c24
    try clear c24b0
    try clear c24b1
    try clear c25
    try clear c25b0
    try clear c25b1
    try clear c28
    try clear c33
    try clear c33b0
    try clear c33b1
    try clear c36
    try clear c43
    try clear c51
    try clear c55
    try clear c55b0
    try clear c55b1
    try clear p55
    try clear q55
    try clear hx55
    try clear c56
    try clear c56b0
    try clear c56b1
    try clear c57
    try clear c59
    try clear c59b0
    try clear c59b1
    try clear c60
    try clear c62
    try clear hcz12_0
    try clear hcz12_1
    try clear hcz13_0
    try clear hcz13_1
    try clear hcz13_2
    try clear hcz15_0
    try clear hcz15_1
    try clear hcz15_2
    try clear hcz16_0
    try clear hcz16_1
    try clear hcz20_0
    try clear hcz20_1
    try clear hcz21_0
    try clear hcz21_1
    try clear hcz21_2
    try clear hcz23_0
    try clear hcz23_1
    try clear hcz23_2
    try clear hcz29_0
    try clear hcz29_1
    try clear hcz30_0
    try clear hcz30_1
    try clear hcz30_2
    try clear hcz32_0
    try clear hcz32_1
    try clear hcz32_2
    try clear hcz37_0
    try clear hcz37_1
    try clear hcz38_0
    try clear hcz38_1
    try clear hcz38_2
    try clear hcz40_0
    try clear hcz40_1
    try clear hcz40_2
    try clear hcz44_0
    try clear hcz44_1
    try clear hcz45_0
    try clear hcz45_1
    try clear hcz45_2
    try clear hcz47_0
    try clear hcz47_1
    try clear hcz47_2
    try clear hcz52_0
    try clear hcz52_1
    try clear hcz53_0
    try clear hcz53_1
    try clear hcz53_2
    try clear hcz58_0
    try clear hcz58_1
    try clear hcz58_2
    try clear hcz61_0
    try clear hcz61_1
    try clear hcz61_2
    try clear hcz63_0
    try clear hcz63_1
    try clear hcz63_2
    try clear hfz12_0
    try clear hfz12_1
    try clear hfz13_0
    try clear hfz13_1
    try clear hfz13_2
    try clear hfz15_0
    try clear hfz15_1
    try clear hfz15_2
    try clear hfz16_0
    try clear hfz16_1
    try clear hfz20_0
    try clear hfz20_1
    try clear hfz21_0
    try clear hfz21_1
    try clear hfz21_2
    try clear hfz23_0
    try clear hfz23_1
    try clear hfz23_2
    try clear hfz29_0
    try clear hfz29_1
    try clear hfz30_0
    try clear hfz30_1
    try clear hfz30_2
    try clear hfz32_0
    try clear hfz32_1
    try clear hfz32_2
    try clear hfz37_0
    try clear hfz37_1
    try clear hfz38_0
    try clear hfz38_1
    try clear hfz38_2
    try clear hfz40_0
    try clear hfz40_1
    try clear hfz40_2
    try clear hfz44_0
    try clear hfz44_1
    try clear hfz45_0
    try clear hfz45_1
    try clear hfz45_2
    try clear hfz47_0
    try clear hfz47_1
    try clear hfz47_2
    try clear hfz52_0
    try clear hfz52_1
    try clear hfz53_0
    try clear hfz53_1
    try clear hfz53_2
    try clear hfz58_0
    try clear hfz58_1
    try clear hfz58_2
    try clear hfz61_0
    try clear hfz61_1
    try clear hfz61_2
    try clear hfz63_0
    try clear hfz63_1
    try clear hfz63_2
    try clear hx556_0
    try clear p556
    try clear q556
    obtain ⟨kq, x42_47, rfl, HA, HJ47, BK553, BK554, HB⟩ := hcut
    cases kq with
    | zero => exact absurd HA.out (by simp [impl_refusal.j0])
    | succ kj47 =>
     have H := HA.out
     clear HA
     simp only [impl_refusal.j0] at H
     by_cases c64 : x42_47 = true
     ·subst c64
      have H1 : (if 0 ≤ a1_1 then (if a1_1 < (l0_0.length : Int) then (some ((rd l0_0 a1_1) == 0)) else (none)) else (none)) = some r := by rw [if_pos rfl] at H; exact H
      clear H
      have H := H1
      clear H1
      by_cases c65 : 0 ≤ a1_1
      ·rw [if_pos c65] at H
       have c65b0 := decide_eq_true c65
       clear c65
       by_cases c66 : a1_1 < (l0_0.length : Int)
       ·rw [if_pos c66] at H
        have c66b0 := decide_eq_true c66
        clear c66
        obtain rfl := Option.some.inj H
        have hnb67 := NB553_554.out
        have hnc67 := NB554_553.out
        obtain ⟨hcz68_0, hcz68_1, hfz68_0, hfz68_1⟩ := c2 BK553
        obtain ⟨hcz69_0, hcz69_1, hcz69_2, hfz69_0, hfz69_1, hfz69_2⟩ := c3 BK554
        have p557 : 0 ≤ (a1_1 : Int) := od
        have q557 : a1_1 < (l0_0.length : Int) := od
        obtain ⟨ad557, e557, hx557_0⟩ := Kd.at_int HR0_0.out a1_1 p557 q557
        cases e557
        replace hx557_0 := (HB.out.cell (World.block_lt_of_cell? w _ hx557_0)).trans hx557_0
        replace p557 := eq_true p557
        replace q557 := eq_true q557
        go_wp2
        go_ret
        exact ⟨er, tb HB⟩
       ·rw [if_neg c66] at H
        exact absurd H (by simp)
      ·rw [if_neg c65] at H
       exact absurd H (by simp)
     ·replace c64 := Bool.eq_false_iff.mpr c64
      subst c64
      have H1 : (if a2 = 3 then (if t555 < 0 then (if a1_0 = 5 then (some true) else (if a1_0 = 10 then ((impl_made.f l0_0 a0_1).bind fun t558 => (some t558)) else (some false))) else (some false)) else (if a2 = 4 then (impl_refusal.j1 kj47 a2 (a1_0 == 8) l0_0 a0_1 a1_0 a1_1 a1_2) else (impl_refusal.j1 kj47 a2 false l0_0 a0_1 a1_0 a1_1 a1_2))) = some r := by rw [if_neg (show ¬ (false = true) by decide)] at H; exact H
      clear H
      have H := H1
      clear H1
      by_cases c70 : a2 = 3
      ·rw [if_pos c70] at H
       have c70b0 : (a2 == 3) = true := beq_iff_eq.mpr c70
       have c70b1 : (a2 != 3) = false := bne_eq_false_iff_eq.mpr c70
       clear c70
       by_cases c71 : t555 < 0
       ·rw [if_pos c71] at H
        have c71b0 := decide_eq_true c71
        clear c71
        by_cases c72 : a1_0 = 5
        ·rw [if_pos c72] at H
         have c72b0 : (a1_0 == 5) = true := beq_iff_eq.mpr c72
         have c72b1 : (a1_0 != 5) = false := bne_eq_false_iff_eq.mpr c72
         clear c72
         obtain rfl := Option.some.inj H
         have hnb73 := NB554_553.out
         have hnc73 := NB553_554.out
         obtain ⟨hcz74_0, hcz74_1, hcz74_2, hfz74_0, hfz74_1, hfz74_2⟩ := c3 BK554
         go_wp2
         go_ret
         exact ⟨er, tb HB⟩
        ·rw [if_neg c72] at H
         have c72b0 : (a1_0 == 5) = false := beq_eq_false_iff_ne.mpr c72
         have c72b1 : (a1_0 != 5) = true := bne_iff_ne.mpr c72
         by_cases c75 : a1_0 = 10
         ·rw [if_pos c75] at H
          have c75b0 : (a1_0 == 10) = true := beq_iff_eq.mpr c75
          have c75b1 : (a1_0 != 10) = false := bne_eq_false_iff_eq.mpr c75
          clear c75
          replace H := Option.bind_eq_some_iff.mp H
          obtain ⟨t558, A760, H⟩ := H
          replace H : (some t558) = some r := H
          have A76 := Aside0.mk A760
          clear A760
          obtain rfl := Option.some.inj H
          have hnb77 := NB554_553.out
          have hnc77 := NB553_554.out
          obtain ⟨hcz78_0, hcz78_1, hcz78_2, hfz78_0, hfz78_1, hfz78_2⟩ := c3 BK554
          obtain ⟨hcz79_0, hcz79_1, hfz79_0, hfz79_1⟩ := c2 BK553
          go_wp2_with (first | (go_at_call 162; (with_reducible refine (impl_made.calls _ _ l0_0 a0_1 t558 _ ?side1 ?side2 A76.out).mono ?_); (case side1 => exact kc HR0_0 HB); (case side2 => exact HC0_0.out); rintro e w80 ⟨rfl, hb⟩; replace BK553 := bb BK553 hb; replace BK554 := bb BK554 hb; replace HB := bs HB hb; (try clear hb); (try clear hb2); (try clear hk); (try clear hi)))
          go_ret
          exact ⟨er, tb HB⟩
         ·rw [if_neg c75] at H
          have c75b0 : (a1_0 == 10) = false := beq_eq_false_iff_ne.mpr c75
          have c75b1 : (a1_0 != 10) = true := bne_iff_ne.mpr c75
          obtain rfl := Option.some.inj H
          have hnb81 := NB554_553.out
          have hnc81 := NB553_554.out
          obtain ⟨hcz82_0, hcz82_1, hcz82_2, hfz82_0, hfz82_1, hfz82_2⟩ := c3 BK554
          go_wp2
          go_ret
          exact ⟨er, tb HB⟩
       ·rw [if_neg c71] at H
        have c71b0 := decide_eq_false c71
        clear c71
        obtain rfl := Option.some.inj H
        go_wp2
        go_ret
        exact ⟨er, tb HB⟩
      ·rw [if_neg c70] at H
       have c70b0 : (a2 == 3) = false := beq_eq_false_iff_ne.mpr c70
       have c70b1 : (a2 != 3) = true := bne_iff_ne.mpr c70
       have HC83 := Aside0.mk H
       clear H
       go_upto_region 10 with (fail)
       go_cut [86] (fun v86 wc => ∃ (kq : Nat) (x86_82 : Bool), v86 = .bool x86_82 ∧ Aside0 (impl_refusal.j1 kq a2 x86_82 l0_0 a0_1 a1_0 a1_1 a1_2 = some r) ∧ Aside0 (kq ≤ kj47) ∧ Aside0 (wc.heap[gb553]? = some (.cells #[(.slice A0_0 l0_0.length c0_0), .int .i64 a0_1] 65 (0, 0))) ∧ Aside0 (wc.heap[gb554]? = some (.cells #[.int .i64 a1_0, .int .i64 a1_1, .int .i64 a1_2] 68 (0, 0))) ∧ Aside0 (Below w.heap.size w wc))
       case first =>
        have H := HC83.out
        clear HC83
        by_cases c84 : a2 = 4
        ·rw [if_pos c84] at H
         have c84b0 : (a2 == 4) = true := beq_iff_eq.mpr c84
         have c84b1 : (a2 != 4) = false := bne_eq_false_iff_eq.mpr c84
         clear c84
         (first | rw [c84b0] | (simp only [i64_w, i32_w]; rw [c84b0]) | skip)
         have H' := Aside0.mk H
         clear H
         have hnb85 := NB554_553.out
         have hnc85 := NB553_554.out
         obtain ⟨hcz86_0, hcz86_1, hcz86_2, hfz86_0, hfz86_1, hfz86_2⟩ := c3 BK554
         go_wp2
         go_meet
         case rel => exact ⟨_, ((a1_0 == 8)), (by first | rfl | (simp; done) | (simp [*]; done)), H', ⟨by have := HJ47.out; first | omega | exact Nat.le_refl _⟩, ⟨by (with_reducible repeat (first | refine blk_drewN ?_ _ | refine blk_drew ?_ | refine blk_alloc ?_ _)); exact BK553.out⟩, ⟨by (with_reducible repeat (first | refine blk_drewN ?_ _ | refine blk_drew ?_ | refine blk_alloc ?_ _)); exact BK554.out⟩, ⟨tb HB⟩⟩
        ·rw [if_neg c84] at H
         have c84b0 : (a2 == 4) = false := beq_eq_false_iff_ne.mpr c84
         have c84b1 : (a2 != 4) = true := bne_iff_ne.mpr c84
         (first | rw [c84b0] | (simp only [i64_w, i32_w]; rw [c84b0]) | skip)
         have H' := Aside0.mk H
         clear H
         go_wp2
         go_meet
         case rel => exact ⟨_, (false), (by first | rfl | (simp; done) | (simp [*]; done)), H', ⟨by have := HJ47.out; first | omega | exact Nat.le_refl _⟩, ⟨by (with_reducible repeat (first | refine blk_drewN ?_ _ | refine blk_drew ?_ | refine blk_alloc ?_ _)); exact BK553.out⟩, ⟨by (with_reducible repeat (first | refine blk_drewN ?_ _ | refine blk_drew ?_ | refine blk_alloc ?_ _)); exact BK554.out⟩, ⟨tb HB⟩⟩
       case rest =>
        clear HC83
        try clear c1
        try clear c2
        try clear p2
        try clear c3
        try clear c4
        try clear c5
        try clear c5b0
        try clear c5b1
        try clear p5
        try clear q5
        try clear hx5
        try clear c6
        try clear c6b0
        try clear c6b1
        try clear c7
        try clear c7b0
        try clear c8
        try clear c8b0
        try clear c10
        try clear c11
        try clear c16
        try clear c19
        try clear c24
        try clear c24b0
        try clear c24b1
        try clear c25
        try clear c25b0
        try clear c25b1
        try clear c28
        try clear c33
        try clear c33b0
        try clear c33b1
        try clear c36
        try clear c43
        try clear c51
        try clear c55
        try clear c55b0
        try clear c55b1
        try clear p55
        try clear q55
        try clear hx55
        try clear c56
        try clear c56b0
        try clear c56b1
        try clear c57
        try clear c59
        try clear c59b0
        try clear c59b1
        try clear c60
        try clear c62
        try clear c64
        try clear c65
        try clear c65b0
        try clear c66
        try clear c66b0
        try clear c67
        try clear c70
        try clear c70b0
        try clear c70b1
        try clear c71
        try clear c71b0
        try clear c72
        try clear c72b0
        try clear c72b1
        try clear c73
        try clear c75
        try clear c75b0
        try clear c75b1
        try clear c77
        try clear c81
        try clear c84
        try clear c84b0
        try clear c84b1
        try clear c85
        try clear hcz12_0
        try clear hcz12_1
        try clear hcz13_0
        try clear hcz13_1
        try clear hcz13_2
        try clear hcz15_0
        try clear hcz15_1
        try clear hcz15_2
        try clear hcz16_0
        try clear hcz16_1
        try clear hcz20_0
        try clear hcz20_1
        try clear hcz21_0
        try clear hcz21_1
        try clear hcz21_2
        try clear hcz23_0
        try clear hcz23_1
        try clear hcz23_2
        try clear hcz29_0
        try clear hcz29_1
        try clear hcz30_0
        try clear hcz30_1
        try clear hcz30_2
        try clear hcz32_0
        try clear hcz32_1
        try clear hcz32_2
        try clear hcz37_0
        try clear hcz37_1
        try clear hcz38_0
        try clear hcz38_1
        try clear hcz38_2
        try clear hcz40_0
        try clear hcz40_1
        try clear hcz40_2
        try clear hcz44_0
        try clear hcz44_1
        try clear hcz45_0
        try clear hcz45_1
        try clear hcz45_2
        try clear hcz47_0
        try clear hcz47_1
        try clear hcz47_2
        try clear hcz52_0
        try clear hcz52_1
        try clear hcz53_0
        try clear hcz53_1
        try clear hcz53_2
        try clear hcz58_0
        try clear hcz58_1
        try clear hcz58_2
        try clear hcz61_0
        try clear hcz61_1
        try clear hcz61_2
        try clear hcz63_0
        try clear hcz63_1
        try clear hcz63_2
        try clear hcz68_0
        try clear hcz68_1
        try clear hcz69_0
        try clear hcz69_1
        try clear hcz69_2
        try clear hcz74_0
        try clear hcz74_1
        try clear hcz74_2
        try clear hcz78_0
        try clear hcz78_1
        try clear hcz78_2
        try clear hcz79_0
        try clear hcz79_1
        try clear hcz82_0
        try clear hcz82_1
        try clear hcz82_2
        try clear hcz86_0
        try clear hcz86_1
        try clear hcz86_2
        try clear hfz12_0
        try clear hfz12_1
        try clear hfz13_0
        try clear hfz13_1
        try clear hfz13_2
        try clear hfz15_0
        try clear hfz15_1
        try clear hfz15_2
        try clear hfz16_0
        try clear hfz16_1
        try clear hfz20_0
        try clear hfz20_1
        try clear hfz21_0
        try clear hfz21_1
        try clear hfz21_2
        try clear hfz23_0
        try clear hfz23_1
        try clear hfz23_2
        try clear hfz29_0
        try clear hfz29_1
        try clear hfz30_0
        try clear hfz30_1
        try clear hfz30_2
        try clear hfz32_0
        try clear hfz32_1
        try clear hfz32_2
        try clear hfz37_0
        try clear hfz37_1
        try clear hfz38_0
        try clear hfz38_1
        try clear hfz38_2
        try clear hfz40_0
        try clear hfz40_1
        try clear hfz40_2
        try clear hfz44_0
        try clear hfz44_1
        try clear hfz45_0
        try clear hfz45_1
        try clear hfz45_2
        try clear hfz47_0
        try clear hfz47_1
        try clear hfz47_2
        try clear hfz52_0
        try clear hfz52_1
        try clear hfz53_0
        try clear hfz53_1
        try clear hfz53_2
        try clear hfz58_0
        try clear hfz58_1
        try clear hfz58_2
        try clear hfz61_0
        try clear hfz61_1
        try clear hfz61_2
        try clear hfz63_0
        try clear hfz63_1
        try clear hfz63_2
        try clear hfz68_0
        try clear hfz68_1
        try clear hfz69_0
        try clear hfz69_1
        try clear hfz69_2
        try clear hfz74_0
        try clear hfz74_1
        try clear hfz74_2
        try clear hfz78_0
        try clear hfz78_1
        try clear hfz78_2
        try clear hfz79_0
        try clear hfz79_1
        try clear hfz82_0
        try clear hfz82_1
        try clear hfz82_2
        try clear hfz86_0
        try clear hfz86_1
        try clear hfz86_2
        try clear hx556_0
        try clear hx557_0
        try clear p2
        try clear p5
        try clear p55
        try clear p556
        try clear p557
        try clear q5
        try clear q55
        try clear q556
        try clear q557
        obtain ⟨kq, x86_82, rfl, HA, HJ82, BK553, BK554, HB⟩ := hcut
        cases kq with
        | zero => exact absurd HA.out (by simp [impl_refusal.j1])
        | succ kj82 =>
         have H := HA.out
         clear HA
         simp only [impl_refusal.j1] at H
         by_cases c87 : x86_82 = true
         ·subst c87
          have H1 : (some (a0_1 != 0)) = some r := by rw [if_pos rfl] at H; exact H
          clear H
          have H := H1
          clear H1
          obtain rfl := Option.some.inj H
          have hnb88 := NB553_554.out
          have hnc88 := NB554_553.out
          obtain ⟨hcz89_0, hcz89_1, hfz89_0, hfz89_1⟩ := c2 BK553
          go_wp2
          go_ret
          exact ⟨er, tb HB⟩
         ·replace c87 := Bool.eq_false_iff.mpr c87
          subst c87
          have H1 : (if a2 = 4 then (impl_refusal.j2 kj82 a2 (a1_0 == 9) l0_0 a0_1 a1_0 a1_1 a1_2) else (impl_refusal.j2 kj82 a2 false l0_0 a0_1 a1_0 a1_1 a1_2)) = some r := by rw [if_neg (show ¬ (false = true) by decide)] at H; exact H
          clear H
          have H := H1
          clear H1
          have HC90 := Aside0.mk H
          clear H
          go_upto_region 12 with (fail)
          go_cut [97] (fun v97 wc => ∃ (kq : Nat) (x97_89 : Bool), v97 = .bool x97_89 ∧ Aside0 (impl_refusal.j2 kq a2 x97_89 l0_0 a0_1 a1_0 a1_1 a1_2 = some r) ∧ Aside0 (kq ≤ kj82) ∧ Aside0 (wc.heap[gb553]? = some (.cells #[(.slice A0_0 l0_0.length c0_0), .int .i64 a0_1] 65 (0, 0))) ∧ Aside0 (wc.heap[gb554]? = some (.cells #[.int .i64 a1_0, .int .i64 a1_1, .int .i64 a1_2] 68 (0, 0))) ∧ Aside0 (Below w.heap.size w wc))
          case first =>
           have H := HC90.out
           clear HC90
           by_cases c91 : a2 = 4
           ·rw [if_pos c91] at H
            have c91b0 : (a2 == 4) = true := beq_iff_eq.mpr c91
            have c91b1 : (a2 != 4) = false := bne_eq_false_iff_eq.mpr c91
            clear c91
            (first | rw [c91b0] | (simp only [i64_w, i32_w]; rw [c91b0]) | skip)
            have H' := Aside0.mk H
            clear H
            have hnb92 := NB554_553.out
            have hnc92 := NB553_554.out
            obtain ⟨hcz93_0, hcz93_1, hcz93_2, hfz93_0, hfz93_1, hfz93_2⟩ := c3 BK554
            go_wp2
            go_meet
            case rel => exact ⟨_, ((a1_0 == 9)), (by first | rfl | (simp; done) | (simp [*]; done)), H', ⟨by have := HJ47.out; have := HJ82.out; first | omega | exact Nat.le_refl _⟩, ⟨by (with_reducible repeat (first | refine blk_drewN ?_ _ | refine blk_drew ?_ | refine blk_alloc ?_ _)); exact BK553.out⟩, ⟨by (with_reducible repeat (first | refine blk_drewN ?_ _ | refine blk_drew ?_ | refine blk_alloc ?_ _)); exact BK554.out⟩, ⟨tb HB⟩⟩
           ·rw [if_neg c91] at H
            have c91b0 : (a2 == 4) = false := beq_eq_false_iff_ne.mpr c91
            have c91b1 : (a2 != 4) = true := bne_iff_ne.mpr c91
            (first | rw [c91b0] | (simp only [i64_w, i32_w]; rw [c91b0]) | skip)
            have H' := Aside0.mk H
            clear H
            go_wp2
            go_meet
            case rel => exact ⟨_, (false), (by first | rfl | (simp; done) | (simp [*]; done)), H', ⟨by have := HJ47.out; have := HJ82.out; first | omega | exact Nat.le_refl _⟩, ⟨by (with_reducible repeat (first | refine blk_drewN ?_ _ | refine blk_drew ?_ | refine blk_alloc ?_ _)); exact BK553.out⟩, ⟨by (with_reducible repeat (first | refine blk_drewN ?_ _ | refine blk_drew ?_ | refine blk_alloc ?_ _)); exact BK554.out⟩, ⟨tb HB⟩⟩
          case rest =>
           clear HC90
           try clear c1
           try clear c2
           try clear p2
           try clear c3
           try clear c4
           try clear c5
           try clear c5b0
           try clear c5b1
           try clear p5
           try clear q5
           try clear hx5
           try clear c6
           try clear c6b0
           try clear c6b1
           try clear c7
           try clear c7b0
           try clear c8
           try clear c8b0
           try clear c9
           try clear c10
           try clear c11
           try clear c16
           try clear c19
           try clear c24
           try clear c24b0
           try clear c24b1
           try clear c25
           try clear c25b0
           try clear c25b1
           try clear c28
           try clear c33
           try clear c33b0
           try clear c33b1
           try clear c36
           try clear c43
           try clear c51
           try clear c55
           try clear c55b0
           try clear c55b1
           try clear p55
           try clear q55
           try clear hx55
           try clear c56
           try clear c56b0
           try clear c56b1
           try clear c57
           try clear c59
           try clear c59b0
           try clear c59b1
           try clear c60
           try clear c62
           try clear c64
           try clear c65
           try clear c65b0
           try clear c66
           try clear c66b0
           try clear c67
           try clear c70
           try clear c70b0
           try clear c70b1
           try clear c71
           try clear c71b0
           try clear c72
           try clear c72b0
           try clear c72b1
           try clear c73
           try clear c75
           try clear c75b0
           try clear c75b1
           try clear c77
           try clear c81
           try clear c84
           try clear c84b0
           try clear c84b1
           try clear c85
           try clear c87
           try clear c88
           try clear c91
           try clear c91b0
           try clear c91b1
           try clear c92
           try clear hcz12_0
           try clear hcz12_1
           try clear hcz13_0
           try clear hcz13_1
           try clear hcz13_2
           try clear hcz15_0
           try clear hcz15_1
           try clear hcz15_2
           try clear hcz16_0
           try clear hcz16_1
           try clear hcz20_0
           try clear hcz20_1
           try clear hcz21_0
           try clear hcz21_1
           try clear hcz21_2
           try clear hcz23_0
           try clear hcz23_1
           try clear hcz23_2
           try clear hcz29_0
           try clear hcz29_1
           try clear hcz30_0
           try clear hcz30_1
           try clear hcz30_2
           try clear hcz32_0
           try clear hcz32_1
           try clear hcz32_2
           try clear hcz37_0
           try clear hcz37_1
           try clear hcz38_0
           try clear hcz38_1
           try clear hcz38_2
           try clear hcz40_0
           try clear hcz40_1
           try clear hcz40_2
           try clear hcz44_0
           try clear hcz44_1
           try clear hcz45_0
           try clear hcz45_1
           try clear hcz45_2
           try clear hcz47_0
           try clear hcz47_1
           try clear hcz47_2
           try clear hcz52_0
           try clear hcz52_1
           try clear hcz53_0
           try clear hcz53_1
           try clear hcz53_2
           try clear hcz58_0
           try clear hcz58_1
           try clear hcz58_2
           try clear hcz61_0
           try clear hcz61_1
           try clear hcz61_2
           try clear hcz63_0
           try clear hcz63_1
           try clear hcz63_2
           try clear hcz68_0
           try clear hcz68_1
           try clear hcz69_0
           try clear hcz69_1
           try clear hcz69_2
           try clear hcz74_0
           try clear hcz74_1
           try clear hcz74_2
           try clear hcz78_0
           try clear hcz78_1
           try clear hcz78_2
           try clear hcz79_0
           try clear hcz79_1
           try clear hcz82_0
           try clear hcz82_1
           try clear hcz82_2
           try clear hcz86_0
           try clear hcz86_1
           try clear hcz86_2
           try clear hcz89_0
           try clear hcz89_1
           try clear hcz93_0
           try clear hcz93_1
           try clear hcz93_2
           try clear hfz12_0
           try clear hfz12_1
           try clear hfz13_0
           try clear hfz13_1
           try clear hfz13_2
           try clear hfz15_0
           try clear hfz15_1
           try clear hfz15_2
           try clear hfz16_0
           try clear hfz16_1
           try clear hfz20_0
           try clear hfz20_1
           try clear hfz21_0
           try clear hfz21_1
           try clear hfz21_2
           try clear hfz23_0
           try clear hfz23_1
           try clear hfz23_2
           try clear hfz29_0
           try clear hfz29_1
           try clear hfz30_0
           try clear hfz30_1
           try clear hfz30_2
           try clear hfz32_0
           try clear hfz32_1
           try clear hfz32_2
           try clear hfz37_0
           try clear hfz37_1
           try clear hfz38_0
           try clear hfz38_1
           try clear hfz38_2
           try clear hfz40_0
           try clear hfz40_1
           try clear hfz40_2
           try clear hfz44_0
           try clear hfz44_1
           try clear hfz45_0
           try clear hfz45_1
           try clear hfz45_2
           try clear hfz47_0
           try clear hfz47_1
           try clear hfz47_2
           try clear hfz52_0
           try clear hfz52_1
           try clear hfz53_0
           try clear hfz53_1
           try clear hfz53_2
           try clear hfz58_0
           try clear hfz58_1
           try clear hfz58_2
           try clear hfz61_0
           try clear hfz61_1
           try clear hfz61_2
           try clear hfz63_0
           try clear hfz63_1
           try clear hfz63_2
           try clear hfz68_0
           try clear hfz68_1
           try clear hfz69_0
           try clear hfz69_1
           try clear hfz69_2
           try clear hfz74_0
           try clear hfz74_1
           try clear hfz74_2
           try clear hfz78_0
           try clear hfz78_1
           try clear hfz78_2
           try clear hfz79_0
           try clear hfz79_1
           try clear hfz82_0
           try clear hfz82_1
           try clear hfz82_2
           try clear hfz86_0
           try clear hfz86_1
           try clear hfz86_2
           try clear hfz89_0
           try clear hfz89_1
           try clear hfz93_0
           try clear hfz93_1
           try clear hfz93_2
           try clear hx556_0
           try clear hx557_0
           try clear p2
           try clear p5
           try clear p55
           try clear p556
           try clear p557
           try clear q5
           try clear q55
           try clear q556
           try clear q557
           obtain ⟨kq, x97_89, rfl, HA, HJ89, BK553, BK554, HB⟩ := hcut
           cases kq with
           | zero => exact absurd HA.out (by simp [impl_refusal.j2])
           | succ kj89 =>
            have H := HA.out
            clear HA
            simp only [impl_refusal.j2] at H
            by_cases c94 : x97_89 = true
            ·subst c94
             have H1 : (if a0_1 = 0 then (some true) else ((impl_made.f l0_0 a0_1).bind fun t559 => (some t559))) = some r := by rw [if_pos rfl] at H; exact H
             clear H
             have H := H1
             clear H1
             by_cases c95 : a0_1 = 0
             ·rw [if_pos c95] at H
              have c95b0 : (a0_1 == 0) = true := beq_iff_eq.mpr c95
              have c95b1 : (a0_1 != 0) = false := bne_eq_false_iff_eq.mpr c95
              clear c95
              obtain rfl := Option.some.inj H
              have hnb96 := NB553_554.out
              have hnc96 := NB554_553.out
              obtain ⟨hcz97_0, hcz97_1, hfz97_0, hfz97_1⟩ := c2 BK553
              go_wp2
              go_ret
              exact ⟨er, tb HB⟩
             ·rw [if_neg c95] at H
              have c95b0 : (a0_1 == 0) = false := beq_eq_false_iff_ne.mpr c95
              have c95b1 : (a0_1 != 0) = true := bne_iff_ne.mpr c95
              replace H := Option.bind_eq_some_iff.mp H
              obtain ⟨t559, A980, H⟩ := H
              replace H : (some t559) = some r := H
              have A98 := Aside0.mk A980
              clear A980
              obtain rfl := Option.some.inj H
              have hnb99 := NB553_554.out
              have hnc99 := NB554_553.out
              obtain ⟨hcz100_0, hcz100_1, hfz100_0, hfz100_1⟩ := c2 BK553
              go_wp2_with (first | (go_at_call 162; (with_reducible refine (impl_made.calls _ _ l0_0 a0_1 t559 _ ?side1 ?side2 A98.out).mono ?_); (case side1 => exact kc HR0_0 HB); (case side2 => exact HC0_0.out); rintro e w101 ⟨rfl, hb⟩; replace BK553 := bb BK553 hb; replace BK554 := bb BK554 hb; replace HB := bs HB hb; (try clear hb); (try clear hb2); (try clear hk); (try clear hi)))
              go_ret
              exact ⟨er, tb HB⟩
            ·replace c94 := Bool.eq_false_iff.mpr c94
             subst c94
             have H1 : (if a2 = 4 then (if a1_0 = 10 then ((impl_made.f l0_0 a0_1).bind fun t560 => (some (!t560))) else (some false)) else (some false)) = some r := by rw [if_neg (show ¬ (false = true) by decide)] at H; exact H
             clear H
             have H := H1
             clear H1
             by_cases c102 : a2 = 4
             ·rw [if_pos c102] at H
              have c102b0 : (a2 == 4) = true := beq_iff_eq.mpr c102
              have c102b1 : (a2 != 4) = false := bne_eq_false_iff_eq.mpr c102
              clear c102
              by_cases c103 : a1_0 = 10
              ·rw [if_pos c103] at H
               have c103b0 : (a1_0 == 10) = true := beq_iff_eq.mpr c103
               have c103b1 : (a1_0 != 10) = false := bne_eq_false_iff_eq.mpr c103
               clear c103
               replace H := Option.bind_eq_some_iff.mp H
               obtain ⟨t560, A1040, H⟩ := H
               replace H : (some (!t560)) = some r := H
               have A104 := Aside0.mk A1040
               clear A1040
               obtain rfl := Option.some.inj H
               have hnb105 := NB554_553.out
               have hnc105 := NB553_554.out
               obtain ⟨hcz106_0, hcz106_1, hcz106_2, hfz106_0, hfz106_1, hfz106_2⟩ := c3 BK554
               obtain ⟨hcz107_0, hcz107_1, hfz107_0, hfz107_1⟩ := c2 BK553
               go_wp2_with (first | ((with_reducible refine gate_callee (f := 162) rfl ?_); refine gL 121 Try.func162 #[.agg #[.slice A0_0 l0_0.length c0_0, .int .i64 a0_1]] ?_; (with_reducible refine (impl_made.calls _ _ l0_0 a0_1 t560 _ ?side1 ?side2 A104.out).mono ?_); (case side1 => exact kc HR0_0 HB); (case side2 => exact HC0_0.out); rintro e w108 ⟨rfl, hb⟩; refine ⟨_, rfl, ?_⟩; replace BK553 := bb BK553 hb; replace BK554 := bb BK554 hb; replace HB := bs HB hb; (try clear hb); (try clear hb2); (try clear hk); (try clear hi)))
               go_ret
               exact ⟨er, tb HB⟩
              ·rw [if_neg c103] at H
               have c103b0 : (a1_0 == 10) = false := beq_eq_false_iff_ne.mpr c103
               have c103b1 : (a1_0 != 10) = true := bne_iff_ne.mpr c103
               obtain rfl := Option.some.inj H
               have hnb109 := NB554_553.out
               have hnc109 := NB553_554.out
               obtain ⟨hcz110_0, hcz110_1, hcz110_2, hfz110_0, hfz110_1, hfz110_2⟩ := c3 BK554
               go_wp2
               go_ret
               exact ⟨er, tb HB⟩
             ·rw [if_neg c102] at H
              have c102b0 : (a2 == 4) = false := beq_eq_false_iff_ne.mpr c102
              have c102b1 : (a2 != 4) = true := bne_iff_ne.mpr c102
              obtain rfl := Option.some.inj H
              go_wp2
              go_ret
              exact ⟨er, tb HB⟩
def impl_ClassOf.f (a0 : Int) : Option (Int) := (impl_ValOk.f a0).bind fun t561 => (if t561 = true then (some (Int.tmod a0 3)) else (some (-1)))
set_option maxHeartbeats 8000000 in
set_option maxRecDepth 100000 in
theorem impl_ClassOf.calls (a0 : Int) (r : Int) (w : World) (h : impl_ClassOf.f a0 = some r) :
  Calls Try.prog 177 #[.int .i64 a0] w fun e w' => e = .returned (.int .i64 r) ∧ Drawn0 w w' := by
 have H : ((impl_ValOk.f a0).bind fun t561 => (if t561 = true then (some (Int.tmod a0 3)) else (some (-1)))) = some r := h
 clear h
 replace H := Option.bind_eq_some_iff.mp H
 obtain ⟨t561, A20, H⟩ := H
 replace H : (if t561 = true then (some (Int.tmod a0 3)) else (some (-1))) = some r := H
 have A2 := Aside0.mk A20
 clear A20
 by_cases c3 : t561 = true
 ·subst c3
  have H1 : (some (Int.tmod a0 3)) = some r := by rw [if_pos rfl] at H; exact H
  clear H
  have H := H1
  clear H1
  obtain rfl := Option.some.inj H
  go_enter Try.func177, Try.ntmps177
  go_wp2_with (first | ((with_reducible refine gate_callee (f := 120) rfl ?_); refine gL 4 Try.func120 #[.int .i64 a0] ?_; (with_reducible refine (impl_ValOk.calls a0 true _ A2.out).mono ?_); rintro e w' ⟨rfl, ⟨nd, rfl⟩⟩; refine ⟨_, rfl, ?_⟩))
  go_ret
  exact ⟨by first | rfl | (simp; done) | (simp [*]; done), by repeat (first | exact Drawn0.refl _ | apply Drawn0.step)⟩
 ·replace c3 := Bool.eq_false_iff.mpr c3
  subst c3
  have H1 : (some (-1)) = some r := by rw [if_neg (show ¬ (false = true) by decide)] at H; exact H
  clear H
  have H := H1
  clear H1
  obtain rfl := Option.some.inj H
  go_enter Try.func177, Try.ntmps177
  go_wp2_with (first | ((with_reducible refine gate_callee (f := 120) rfl ?_); refine gL 4 Try.func120 #[.int .i64 a0] ?_; (with_reducible refine (impl_ValOk.calls a0 false _ A2.out).mono ?_); rintro e w' ⟨rfl, ⟨nd, rfl⟩⟩; refine ⟨_, rfl, ?_⟩))
  go_ret
  exact ⟨by first | rfl | (simp; done) | (simp [*]; done), by repeat (first | exact Drawn0.refl _ | apply Drawn0.step)⟩
def impl_HowMany.l0 : Nat → Int → Int → List Int → Int → Int → Option (Int)
 | 0, _, _, _, _, _ => none
 | k + 1, x1, x5, x9, x10, x11 => if x11 < x10 then (if 0 ≤ x11 then (if x11 < (x9.length : Int) then ((impl_ValOk.f (rd x9 x11)).bind fun t564 => (if t564 = true then ((impl_ClassOf.f (rd x9 x11)).bind fun t565 => (if t565 = x1 then (impl_HowMany.l0 k x1 (wrap64 (x5 + 1)) x9 x10 (wrap64 (x11 + 1))) else (impl_HowMany.l0 k x1 x5 x9 x10 (wrap64 (x11 + 1))))) else (impl_HowMany.l0 k x1 x5 x9 x10 (wrap64 (x11 + 1))))) else (none)) else (none)) else (some x5)
def impl_HowMany.f (k : Nat) (l0_0 : List Int) (a0_1 : Int) (a1 : Int) : Option (Int) := impl_HowMany.l0 k a1 0 l0_0 (l0_0.length : Int) 0
theorem impl_HowMany.mono_l : ∀ k, (∀ y0 y1 y2 y3 y4, LeO (impl_HowMany.l0 k y0 y1 y2 y3 y4) (impl_HowMany.l0 (k + 1) y0 y1 y2 y3 y4))
 | 0 => fun _ _ _ _ _ r h => by simp [impl_HowMany.l0] at h
 | k + 1 => by
  have ih0 := impl_HowMany.mono_l k
  ·intro y0 y1 y2 y3 y4
   unfold impl_HowMany.l0
   repeat' first
   | (with_reducible exact ih0 _ _ _ _ _)
   | (with_reducible exact LeO.refl _)
   | (with_reducible exact LeO.none _)
   | (with_reducible refine LeO.ite ?_ ?_)
   | (with_reducible refine LeO.bind ?_ (fun _ => ?_))
   | exact ih0 _ _ _ _ _
   | exact LeO.none _
   | refine LeO.ite ?_ ?_
   | refine LeO.bind ?_ (fun _ => ?_)
theorem impl_HowMany.mono : ∀ a0 a1 a2 k, LeO (impl_HowMany.f k a0 a1 a2) (impl_HowMany.f (k + 1) a0 a1 a2) := by
 intro a0 a1 a2 k
 have ih0 := impl_HowMany.mono_l k
 unfold impl_HowMany.f
 repeat' first
   | (with_reducible exact ih0 _ _ _ _ _)
   | (with_reducible exact LeO.refl _)
   | (with_reducible exact LeO.none _)
   | (with_reducible refine LeO.ite ?_ ?_)
   | (with_reducible refine LeO.bind ?_ (fun _ => ?_))
   | exact ih0 _ _ _ _ _
   | exact LeO.none _
   | refine LeO.ite ?_ ?_
   | refine LeO.bind ?_ (fun _ => ?_)
set_option maxHeartbeats 8000000 in
set_option maxRecDepth 100000 in
theorem impl_HowMany.calls (k : Nat) (A0_0 : Option Addr) (c0_0 : Nat) (l0_0 : List Int) (a0_1 : Int) (a1 : Int) (r : Int) (w : World) (hr0_0 : Kd.C (Kd.int .i64) w A0_0 l0_0.length l0_0) (hc0_0 : l0_0.length ≤ c0_0) (h : impl_HowMany.f k l0_0 a0_1 a1 = some r) :
  Calls Try.prog 163 #[.agg #[.slice A0_0 l0_0.length c0_0, .int .i64 a0_1], .int .i64 a1] w fun e w' => e = .returned (.int .i64 r) ∧ Below w.heap.size w w' := by
 have hu65 := Try.underlying65
 have HR0_0 := Aside0.mk hr0_0
 have HC0_0 := Aside0.mk hc0_0
 clear hr0_0 hc0_0
 have HB := Aside0.mk (Below.refl w.heap.size w)
 have H : (impl_HowMany.l0 k a1 0 l0_0 (l0_0.length : Int) 0) = some r := h
 clear h
 have H' := Aside0.mk H
 clear H
 go_enter Try.func163, Try.ntmps163
 go_wp2_with (first | ((with_reducible refine gate_dst (N := 2) rfl ?_); refine bx (N := 2) (cs := #[.slice A0_0 l0_0.length c0_0, .int .i64 a0_1]) (t := 65) ?_; intro gb562 hg w3 hbox hb; have BK562 := Aside0.mk (hbox); have GW562 := Aside0.mk (ge_ hg HB); have GE562 := Aside0.mk (ge_ hg HB); replace HB := bs HB hb; clear hb hbox hg; obtain ⟨hcz4_0, hcz4_1, hfz4_0, hfz4_1⟩ := c2 BK562))
 go_loopg [5, 11] k (fun kq v5 v11 w' => ∃ (x5_1 : Int) (x11_1 : Int), v5 = .int .i64 x5_1 ∧ v11 = .int .i64 x11_1 ∧ Aside0 (impl_HowMany.l0 kq a1 x5_1 l0_0 (l0_0.length : Int) x11_1 = some r) ∧ Aside0 (kq ≤ k) ∧ Aside0 (w'.heap[gb562]? = some (.cells #[(.slice A0_0 l0_0.length c0_0), .int .i64 a0_1] 65 (0, 0))) ∧ Aside0 (Below w.heap.size w w'))
 case atStart => exact ⟨(0), (0), (by first | rfl | (simp; done) | (simp [*]; done)), (by first | rfl | (simp; done) | (simp [*]; done)), H', ⟨Nat.le_refl _⟩, ⟨by (with_reducible repeat (first | refine blk_drewN ?_ _ | refine blk_drew ?_ | refine blk_alloc ?_ _)); exact BK562.out⟩, ⟨tb HB⟩⟩
 case round =>
  clear H'
  try clear c1
  try clear p2
  try clear hcz4_0
  try clear hcz4_1
  try clear hfz4_0
  try clear hfz4_1
  obtain ⟨x5_1, x11_1, rfl, rfl, HA, HK1, BK562, HB⟩ := hrel
  cases gk with
  | zero => exact absurd HA.out (by simp [impl_HowMany.l0])
  | succ k1 =>
   have H := HA.out
   clear HA
   simp only [impl_HowMany.l0] at H
   by_cases c5 : x11_1 < (l0_0.length : Int)
   ·rw [if_pos c5] at H
    have c5b0 := decide_eq_true c5
    clear c5
    by_cases c6 : 0 ≤ x11_1
    ·rw [if_pos c6] at H
     have c6b0 := decide_eq_true c6
     clear c6
     by_cases c7 : x11_1 < (l0_0.length : Int)
     ·rw [if_pos c7] at H
      have c7b0 := decide_eq_true c7
      clear c7
      replace H := Option.bind_eq_some_iff.mp H
      obtain ⟨t564, A80, H⟩ := H
      replace H : (if t564 = true then ((impl_ClassOf.f (rd l0_0 x11_1)).bind fun t565 => (if t565 = a1 then (impl_HowMany.l0 k1 a1 (wrap64 (x5_1 + 1)) l0_0 (l0_0.length : Int) (wrap64 (x11_1 + 1))) else (impl_HowMany.l0 k1 a1 x5_1 l0_0 (l0_0.length : Int) (wrap64 (x11_1 + 1))))) else (impl_HowMany.l0 k1 a1 x5_1 l0_0 (l0_0.length : Int) (wrap64 (x11_1 + 1)))) = some r := H
      have A8 := Aside0.mk A80
      clear A80
      by_cases c9 : t564 = true
      ·subst c9
       have H1 : ((impl_ClassOf.f (rd l0_0 x11_1)).bind fun t565 => (if t565 = a1 then (impl_HowMany.l0 k1 a1 (wrap64 (x5_1 + 1)) l0_0 (l0_0.length : Int) (wrap64 (x11_1 + 1))) else (impl_HowMany.l0 k1 a1 x5_1 l0_0 (l0_0.length : Int) (wrap64 (x11_1 + 1))))) = some r := by rw [if_pos rfl] at H; exact H
       clear H
       have H := H1
       clear H1
       replace H := Option.bind_eq_some_iff.mp H
       obtain ⟨t565, A100, H⟩ := H
       replace H : (if t565 = a1 then (impl_HowMany.l0 k1 a1 (wrap64 (x5_1 + 1)) l0_0 (l0_0.length : Int) (wrap64 (x11_1 + 1))) else (impl_HowMany.l0 k1 a1 x5_1 l0_0 (l0_0.length : Int) (wrap64 (x11_1 + 1)))) = some r := H
       have A10 := Aside0.mk A100
       clear A100
       by_cases c11 : t565 = a1
       ·rw [if_pos c11] at H
        have c11b0 : (t565 == a1) = true := beq_iff_eq.mpr c11
        have c11b1 : (t565 != a1) = false := bne_eq_false_iff_eq.mpr c11
        clear c11
        have H' := Aside0.mk H
        clear H
        have p563 : 0 ≤ (x11_1 : Int) := od
        have q563 : x11_1 < (l0_0.length : Int) := od
        obtain ⟨ad563, e563, hx563_0⟩ := Kd.at_int HR0_0.out x11_1 p563 q563
        cases e563
        replace hx563_0 := (HB.out.cell (World.block_lt_of_cell? w _ hx563_0)).trans hx563_0
        replace p563 := eq_true p563
        replace q563 := eq_true q563
        go_wp2_with (first | ((with_reducible refine gate_callee (f := 120) rfl ?_); refine gL 16 Try.func120 #[.int .i64 (rd l0_0 x11_1)] ?_; (with_reducible refine (impl_ValOk.calls (rd l0_0 x11_1) true _ A8.out).mono ?_); rintro e w' ⟨rfl, ⟨nd, rfl⟩⟩; refine ⟨_, rfl, ?_⟩) | (go_at_call 177; (with_reducible refine (impl_ClassOf.calls (rd l0_0 x11_1) t565 _ A10.out).mono ?_); rintro e w' ⟨rfl, ⟨nd, rfl⟩⟩))
        go_roundg k1
        case measure => have := HK1.out; omega
        case rel => exact ⟨(wrap64 (x5_1 + 1)), (wrap64 (x11_1 + 1)), (by first | rfl | (simp; done) | (simp [*]; done)), (by first | rfl | (simp; done) | (simp [*]; done)), H', ⟨by have := HK1.out; omega⟩, ⟨by (with_reducible repeat (first | refine blk_drewN ?_ _ | refine blk_drew ?_ | refine blk_alloc ?_ _)); exact BK562.out⟩, ⟨tb HB⟩⟩
       ·rw [if_neg c11] at H
        have c11b0 : (t565 == a1) = false := beq_eq_false_iff_ne.mpr c11
        have c11b1 : (t565 != a1) = true := bne_iff_ne.mpr c11
        have H' := Aside0.mk H
        clear H
        have p563 : 0 ≤ (x11_1 : Int) := od
        have q563 : x11_1 < (l0_0.length : Int) := od
        obtain ⟨ad563, e563, hx563_0⟩ := Kd.at_int HR0_0.out x11_1 p563 q563
        cases e563
        replace hx563_0 := (HB.out.cell (World.block_lt_of_cell? w _ hx563_0)).trans hx563_0
        replace p563 := eq_true p563
        replace q563 := eq_true q563
        go_wp2_with (first | ((with_reducible refine gate_callee (f := 120) rfl ?_); refine gL 16 Try.func120 #[.int .i64 (rd l0_0 x11_1)] ?_; (with_reducible refine (impl_ValOk.calls (rd l0_0 x11_1) true _ A8.out).mono ?_); rintro e w' ⟨rfl, ⟨nd, rfl⟩⟩; refine ⟨_, rfl, ?_⟩) | (go_at_call 177; (with_reducible refine (impl_ClassOf.calls (rd l0_0 x11_1) t565 _ A10.out).mono ?_); rintro e w' ⟨rfl, ⟨nd, rfl⟩⟩))
        go_roundg k1
        case measure => have := HK1.out; omega
        case rel => exact ⟨(x5_1), (wrap64 (x11_1 + 1)), (by first | rfl | (simp; done) | (simp [*]; done)), (by first | rfl | (simp; done) | (simp [*]; done)), H', ⟨by have := HK1.out; omega⟩, ⟨by (with_reducible repeat (first | refine blk_drewN ?_ _ | refine blk_drew ?_ | refine blk_alloc ?_ _)); exact BK562.out⟩, ⟨tb HB⟩⟩
      ·replace c9 := Bool.eq_false_iff.mpr c9
       subst c9
       have H1 : (impl_HowMany.l0 k1 a1 x5_1 l0_0 (l0_0.length : Int) (wrap64 (x11_1 + 1))) = some r := by rw [if_neg (show ¬ (false = true) by decide)] at H; exact H
       clear H
       have H := H1
       clear H1
       have H' := Aside0.mk H
       clear H
       have p563 : 0 ≤ (x11_1 : Int) := od
       have q563 : x11_1 < (l0_0.length : Int) := od
       obtain ⟨ad563, e563, hx563_0⟩ := Kd.at_int HR0_0.out x11_1 p563 q563
       cases e563
       replace hx563_0 := (HB.out.cell (World.block_lt_of_cell? w _ hx563_0)).trans hx563_0
       replace p563 := eq_true p563
       replace q563 := eq_true q563
       go_wp2_with (first | ((with_reducible refine gate_callee (f := 120) rfl ?_); refine gL 16 Try.func120 #[.int .i64 (rd l0_0 x11_1)] ?_; (with_reducible refine (impl_ValOk.calls (rd l0_0 x11_1) false _ A8.out).mono ?_); rintro e w' ⟨rfl, ⟨nd, rfl⟩⟩; refine ⟨_, rfl, ?_⟩))
       go_roundg k1
       case measure => have := HK1.out; omega
       case rel => exact ⟨(x5_1), (wrap64 (x11_1 + 1)), (by first | rfl | (simp; done) | (simp [*]; done)), (by first | rfl | (simp; done) | (simp [*]; done)), H', ⟨by have := HK1.out; omega⟩, ⟨by (with_reducible repeat (first | refine blk_drewN ?_ _ | refine blk_drew ?_ | refine blk_alloc ?_ _)); exact BK562.out⟩, ⟨tb HB⟩⟩
     ·rw [if_neg c7] at H
      exact absurd H (by simp)
    ·rw [if_neg c6] at H
     exact absurd H (by simp)
   ·rw [if_neg c5] at H
    have c5b0 := decide_eq_false c5
    clear c5
    obtain rfl := Option.some.inj H
    go_wp2
    go_ret
    exact ⟨er, tb HB⟩
def impl_success.f (k : Nat) (l0_0 : List Int) (a0_1 : Int) (a1_0 : Int) (a1_1 : Int) (a1_2 : Int) : Option (List Int × Bool) := (impl_KeyOf.f k l0_0 a0_1 a1_2).bind fun t568 => (if a1_0 = 1 then (if 0 ≤ a1_1 then (if a1_1 < (l0_0.length : Int) then (if (rd l0_0 a1_1) = 0 then (some (([] : List Int), decide (t568 < 0))) else (some (([] : List Int), false))) else (none)) else (none)) else (if a1_0 = 2 then (if 0 ≤ a1_1 then (if a1_1 < (l0_0.length : Int) then (if (rd l0_0 a1_1) = 0 then (some (([] : List Int), false)) else (if t568 < 0 then (some (([] : List Int), true)) else (some (([] : List Int), (t568 == a1_1))))) else (none)) else (none)) else (if a1_0 = 3 then (if 0 ≤ a1_1 then (if a1_1 < (l0_0.length : Int) then (some (([] : List Int), ((rd l0_0 a1_1) != 0))) else (none)) else (none)) else (if a1_0 = 4 then (if 0 ≤ a1_1 then (if a1_1 < (l0_0.length : Int) then (some ((([rd l0_0 a1_1] : List Int)), ((rd l0_0 a1_1) != 0))) else (none)) else (none)) else (if a1_0 = 5 then (some ((([t568] : List Int)), decide (t568 ≥ 0))) else (if a1_0 = 6 then ((impl_HowMany.f k l0_0 a0_1 a1_1).bind fun t580 => (some ((([t580] : List Int)), true))) else (if a1_0 = 7 then (some (l0_0, true)) else (if a1_0 = 8 then (some (([] : List Int), (a0_1 == 0))) else (if a1_0 = 9 then (if a0_1 = 0 then (some (([] : List Int), false)) else ((impl_made.f l0_0 a0_1).bind fun t584 => (some (([] : List Int), !t584)))) else ((some (([t568] : List Int) : List Int)).bind fun y585 => (if t568 ≥ 0 then ((impl_made.f l0_0 a0_1).bind fun t588 => (some (y585, t588))) else (some (y585, false)))))))))))))
theorem impl_success.mono : ∀ a0 a1 a2 a3 a4 k, LeO (impl_success.f k a0 a1 a2 a3 a4) (impl_success.f (k + 1) a0 a1 a2 a3 a4) := by
 intro a0 a1 a2 a3 a4 k
 unfold impl_success.f
 repeat' first
   | (with_reducible exact impl_HowMany.mono _ _ _ _)
   | (with_reducible exact impl_KeyOf.mono _ _ _ _)
   | (with_reducible exact LeO.refl _)
   | (with_reducible exact LeO.none _)
   | (with_reducible refine LeO.ite ?_ ?_)
   | (with_reducible refine LeO.bind ?_ (fun _ => ?_))
   | exact impl_HowMany.mono _ _ _ _
   | exact impl_KeyOf.mono _ _ _ _
   | exact LeO.none _
   | refine LeO.ite ?_ ?_
   | refine LeO.bind ?_ (fun _ => ?_)
def impl_success.T6 : Bool × List (List Nat × List Nat) := (true, [([], []), ([0], [0]), ([], []), ([2], [2]), ([1, 3], [1, 3]), ([4], [4]), ([5], [5]), ([6], [6]), ([7], [7]), ([8, 7], [7, 8]), ([9, 7, 7], [7, 9]), ([10], [10]), ([10], [10]), ([12, 10], [10, 12]), ([11, 13, 10], [10, 11, 13]), ([10, 14, 7], [7, 10, 14]), ([7, 15], [7, 15]), ([10], []), ([16, 17, 0, 1, 2, 3, 4, 5, 6, 7, 8, 9, 10, 11, 12, 13, 14, 15, 16, 17], [16])])
def impl_success.B6 : List Nat := [0, 1, 0, 4, 15, 31, 63, 127, 255, 511, 1023, 2047, 2047, 6143, 16383, 32767, 65535, 2047, 262143]
theorem impl_success.tab6 : rtab .any (opsOf Try.f110 6) = impl_success.T6 := by kernel_rfl
theorem impl_success.bits6 : waitsOk impl_success.T6.2 impl_success.B6 = true := by kernel_rfl
def impl_success.T8 : Bool × List (List Nat × List Nat) := (true, [([], []), ([0], [0]), ([], []), ([2], [2]), ([1, 3], [1, 3]), ([4], [4]), ([5], [5]), ([], []), ([6, 7, 0, 1, 2, 3, 4, 5, 6, 7], [6])])
def impl_success.B8 : List Nat := [0, 1, 0, 4, 15, 31, 63, 0, 255]
theorem impl_success.tab8 : rtab .any (opsOf Try.f110 8) = impl_success.T8 := by kernel_rfl
theorem impl_success.bits8 : waitsOk impl_success.T8.2 impl_success.B8 = true := by kernel_rfl
def impl_success.T10 : Bool × List (List Nat × List Nat) := (true, [([], []), ([0], [0]), ([], []), ([2], [2]), ([1, 3], [1, 3]), ([4], [4]), ([5], [5]), ([], []), ([7], [7]), ([], []), ([9], [9]), ([8, 10], [8, 10]), ([11], [11]), ([12], [12]), ([6, 0, 1, 2, 3, 4, 5, 6], [6]), ([13, 14, 0, 1, 2, 3, 4, 5, 6, 7, 8, 9, 10, 11, 12, 13, 14], [13])])
def impl_success.B10 : List Nat := [0, 1, 0, 4, 15, 31, 63, 0, 128, 0, 512, 1920, 3968, 8064, 127, 32767]
theorem impl_success.tab10 : rtab .any (opsOf Try.f110 10) = impl_success.T10 := by kernel_rfl
theorem impl_success.bits10 : waitsOk impl_success.T10.2 impl_success.B10 = true := by kernel_rfl
set_option maxHeartbeats 8000000 in
set_option maxRecDepth 100000 in
theorem impl_success.calls (k : Nat) (P0_0_ : Nat → Prop) (A0_0 : Option Addr) (c0_0 : Nat) (l0_0 : List Int) (a0_1 : Int) (a1_0 : Int) (a1_1 : Int) (a1_2 : Int) (r1 : List Int) (r2 : Bool) (w : World) (hs0_0 : Kd.V (Kd.int .i64) 3 w w.heap.size (fun k_ => P0_0_ k_) (.slice A0_0 l0_0.length c0_0) l0_0) (h : impl_success.f k l0_0 a0_1 a1_0 a1_1 a1_2 = some (r1, r2)) :
  Calls Try.prog 110 #[.agg #[.slice A0_0 l0_0.length c0_0, .int .i64 a0_1], .agg #[.int .i64 a1_0, .int .i64 a1_1, .int .i64 a1_2]] w fun e w' => ∃ v0_ : Value, e = .returned (.tuple #[v0_, .bool r2]) ∧ Kd.V (Kd.int .i64) 3 w' w.heap.size (fun k_ => (P0_0_ k_ ∨ w.heap.size ≤ k_)) v0_ r1 ∧ Below w.heap.size w w' := by
 have hu65 := Try.underlying65
 have hu68 := Try.underlying68
 have HO0_0 := Aside0.mk (show Kd.V (Kd.int .i64) 3 w w.heap.size (fun k_ => (P0_0_ k_ ∨ w.heap.size ≤ k_)) (.slice A0_0 l0_0.length c0_0) l0_0 from Kd.V_mono hs0_0 (fun k_ hk => .inl hk))
 have HB := Aside0.mk (Below.refl w.heap.size w)
 have H : ((impl_KeyOf.f k l0_0 a0_1 a1_2).bind fun t568 => (if a1_0 = 1 then (if 0 ≤ a1_1 then (if a1_1 < (l0_0.length : Int) then (if (rd l0_0 a1_1) = 0 then (some (([] : List Int), decide (t568 < 0))) else (some (([] : List Int), false))) else (none)) else (none)) else (if a1_0 = 2 then (if 0 ≤ a1_1 then (if a1_1 < (l0_0.length : Int) then (if (rd l0_0 a1_1) = 0 then (some (([] : List Int), false)) else (if t568 < 0 then (some (([] : List Int), true)) else (some (([] : List Int), (t568 == a1_1))))) else (none)) else (none)) else (if a1_0 = 3 then (if 0 ≤ a1_1 then (if a1_1 < (l0_0.length : Int) then (some (([] : List Int), ((rd l0_0 a1_1) != 0))) else (none)) else (none)) else (if a1_0 = 4 then (if 0 ≤ a1_1 then (if a1_1 < (l0_0.length : Int) then (some ((([rd l0_0 a1_1] : List Int)), ((rd l0_0 a1_1) != 0))) else (none)) else (none)) else (if a1_0 = 5 then (some ((([t568] : List Int)), decide (t568 ≥ 0))) else (if a1_0 = 6 then ((impl_HowMany.f k l0_0 a0_1 a1_1).bind fun t580 => (some ((([t580] : List Int)), true))) else (if a1_0 = 7 then (some (l0_0, true)) else (if a1_0 = 8 then (some (([] : List Int), (a0_1 == 0))) else (if a1_0 = 9 then (if a0_1 = 0 then (some (([] : List Int), false)) else ((impl_made.f l0_0 a0_1).bind fun t584 => (some (([] : List Int), !t584)))) else ((some (([t568] : List Int) : List Int)).bind fun y585 => (if t568 ≥ 0 then ((impl_made.f l0_0 a0_1).bind fun t588 => (some (y585, t588))) else (some (y585, false)))))))))))))) = some (r1, r2) := h
 clear h
 replace H := Option.bind_eq_some_iff.mp H
 obtain ⟨t568, A30, H⟩ := H
 replace H : (if a1_0 = 1 then (if 0 ≤ a1_1 then (if a1_1 < (l0_0.length : Int) then (if (rd l0_0 a1_1) = 0 then (some (([] : List Int), decide (t568 < 0))) else (some (([] : List Int), false))) else (none)) else (none)) else (if a1_0 = 2 then (if 0 ≤ a1_1 then (if a1_1 < (l0_0.length : Int) then (if (rd l0_0 a1_1) = 0 then (some (([] : List Int), false)) else (if t568 < 0 then (some (([] : List Int), true)) else (some (([] : List Int), (t568 == a1_1))))) else (none)) else (none)) else (if a1_0 = 3 then (if 0 ≤ a1_1 then (if a1_1 < (l0_0.length : Int) then (some (([] : List Int), ((rd l0_0 a1_1) != 0))) else (none)) else (none)) else (if a1_0 = 4 then (if 0 ≤ a1_1 then (if a1_1 < (l0_0.length : Int) then (some ((([rd l0_0 a1_1] : List Int)), ((rd l0_0 a1_1) != 0))) else (none)) else (none)) else (if a1_0 = 5 then (some ((([t568] : List Int)), decide (t568 ≥ 0))) else (if a1_0 = 6 then ((impl_HowMany.f k l0_0 a0_1 a1_1).bind fun t580 => (some ((([t580] : List Int)), true))) else (if a1_0 = 7 then (some (l0_0, true)) else (if a1_0 = 8 then (some (([] : List Int), (a0_1 == 0))) else (if a1_0 = 9 then (if a0_1 = 0 then (some (([] : List Int), false)) else ((impl_made.f l0_0 a0_1).bind fun t584 => (some (([] : List Int), !t584)))) else ((some (([t568] : List Int) : List Int)).bind fun y585 => (if t568 ≥ 0 then ((impl_made.f l0_0 a0_1).bind fun t588 => (some (y585, t588))) else (some (y585, false))))))))))))) = some (r1, r2) := H
 have A3 := Aside0.mk A30
 clear A30
 by_cases c4 : a1_0 = 1
 ·rw [if_pos c4] at H
  have c4b0 : (a1_0 == 1) = true := beq_iff_eq.mpr c4
  have c4b1 : (a1_0 != 1) = false := bne_eq_false_iff_eq.mpr c4
  clear c4
  by_cases c5 : 0 ≤ a1_1
  ·rw [if_pos c5] at H
   have c5b0 := decide_eq_true c5
   clear c5
   by_cases c6 : a1_1 < (l0_0.length : Int)
   ·rw [if_pos c6] at H
    have c6b0 := decide_eq_true c6
    clear c6
    by_cases c7 : (rd l0_0 a1_1) = 0
    ·rw [if_pos c7] at H
     have c7b0 : ((rd l0_0 a1_1) == 0) = true := beq_iff_eq.mpr c7
     have c7b1 : ((rd l0_0 a1_1) != 0) = false := bne_eq_false_iff_eq.mpr c7
     clear c7
     simp only [Option.some.injEq, Prod.mk.injEq] at H
     obtain ⟨rfl, rfl⟩ := H
     go_enter Try.func110, Try.ntmps110
     go_wp2_with (first | ((with_reducible refine gate_dst (N := 2) rfl ?_); refine bx (N := 2) (cs := #[.slice A0_0 l0_0.length c0_0, .int .i64 a0_1]) (t := 65) ?_; intro gb566 hg w8 hbox hb; replace HO0_0 := Aside0.mk (Kd.V_below (Kd.V_elderB (kv HO0_0.out) gb566 (Nat.le_of_eq hg.symm)) hb); have BK566 := Aside0.mk (hbox); have GW566 := Aside0.mk (ge_ hg HB); have GE566 := Aside0.mk (ge_ hg HB); replace HB := bs HB hb; clear hb hbox hg) | ((with_reducible refine gate_dst (N := 3) rfl ?_); refine bx (N := 3) (cs := #[.int .i64 a1_0, .int .i64 a1_1, .int .i64 a1_2]) (t := 68) ?_; intro gb567 hg w9 hbox hb; replace HO0_0 := Aside0.mk (Kd.V_below (Kd.V_elderB (kv HO0_0.out) gb567 (Nat.le_of_eq hg.symm)) hb); have BK567 := Aside0.mk (hbox); have GW567 := Aside0.mk (ge_ hg HB); have GE567 := Aside0.mk (ge_ hg HB); replace HB := bs HB hb; have NB566_567 := Aside0.mk (nl_ hg BK566); have NB567_566 := Aside0.mk (ng_ hg BK566); replace BK566 := bb BK566 hb; clear hb hbox hg; have hnb10 := NB566_567.out; have hnc10 := NB567_566.out; obtain ⟨hcz11_0, hcz11_1, hfz11_0, hfz11_1⟩ := c2 BK566; obtain ⟨hcz12_0, hcz12_1, hcz12_2, hfz12_0, hfz12_1, hfz12_2⟩ := c3 BK567) | ((with_reducible refine gate_callee (f := 161) rfl ?_); refine gL 10 Try.func161 #[.agg #[.slice A0_0 l0_0.length c0_0, .int .i64 a0_1], .int .i64 a1_2] ?_; (with_reducible refine (impl_KeyOf.calls k _ _ l0_0 a0_1 a1_2 t568 _ ?side1 ?side2 A3.out).mono ?_); (case side1 => repeat (first | exact (Kd.V_reads' HO0_0.out).2.2 | (with_reducible refine Kd.C_alloc ?_ _) | (with_reducible refine Kd.C_drewN ?_ _) | (with_reducible refine Kd.C_drew ?_))); (case side2 => exact (Kd.V_reads' HO0_0.out).2.1); rintro e w13 ⟨rfl, hb⟩; refine ⟨_, rfl, ?_⟩; replace HO0_0 := Aside0.mk (Kd.V_below (kv HO0_0.out) hb); replace BK566 := bb BK566 hb; replace BK567 := bb BK567 hb; replace HB := bs HB hb; (try clear hb); (try clear hb2); (try clear hk); (try clear hi); obtain ⟨hcz14_0, hcz14_1, hcz14_2, hfz14_0, hfz14_1, hfz14_2⟩ := c3 BK567; obtain ⟨hcz15_0, hcz15_1, hfz15_0, hfz15_1⟩ := c2 BK566; have p569 : 0 ≤ (a1_1 : Int) := od; have q569 : a1_1 < (l0_0.length : Int) := od; obtain ⟨ad569, e569, hx569_0⟩ := Kd.at_int (Kd.V_reads' HO0_0.out).2.2 a1_1 p569 q569; cases e569; replace p569 := eq_true p569; replace q569 := eq_true q569))
     go_ret2
     exact ⟨_, er, Kd.V_nil _ _ _ _ _, tb HB⟩
    ·rw [if_neg c7] at H
     have c7b0 : ((rd l0_0 a1_1) == 0) = false := beq_eq_false_iff_ne.mpr c7
     have c7b1 : ((rd l0_0 a1_1) != 0) = true := bne_iff_ne.mpr c7
     simp only [Option.some.injEq, Prod.mk.injEq] at H
     obtain ⟨rfl, rfl⟩ := H
     go_enter Try.func110, Try.ntmps110
     go_wp2_with (first | ((with_reducible refine gate_dst (N := 2) rfl ?_); refine bx (N := 2) (cs := #[.slice A0_0 l0_0.length c0_0, .int .i64 a0_1]) (t := 65) ?_; intro gb566 hg w16 hbox hb; replace HO0_0 := Aside0.mk (Kd.V_below (Kd.V_elderB (kv HO0_0.out) gb566 (Nat.le_of_eq hg.symm)) hb); have BK566 := Aside0.mk (hbox); have GW566 := Aside0.mk (ge_ hg HB); have GE566 := Aside0.mk (ge_ hg HB); replace HB := bs HB hb; clear hb hbox hg) | ((with_reducible refine gate_dst (N := 3) rfl ?_); refine bx (N := 3) (cs := #[.int .i64 a1_0, .int .i64 a1_1, .int .i64 a1_2]) (t := 68) ?_; intro gb567 hg w17 hbox hb; replace HO0_0 := Aside0.mk (Kd.V_below (Kd.V_elderB (kv HO0_0.out) gb567 (Nat.le_of_eq hg.symm)) hb); have BK567 := Aside0.mk (hbox); have GW567 := Aside0.mk (ge_ hg HB); have GE567 := Aside0.mk (ge_ hg HB); replace HB := bs HB hb; have NB566_567 := Aside0.mk (nl_ hg BK566); have NB567_566 := Aside0.mk (ng_ hg BK566); replace BK566 := bb BK566 hb; clear hb hbox hg; have hnb18 := NB566_567.out; have hnc18 := NB567_566.out; obtain ⟨hcz19_0, hcz19_1, hfz19_0, hfz19_1⟩ := c2 BK566; obtain ⟨hcz20_0, hcz20_1, hcz20_2, hfz20_0, hfz20_1, hfz20_2⟩ := c3 BK567) | ((with_reducible refine gate_callee (f := 161) rfl ?_); refine gL 10 Try.func161 #[.agg #[.slice A0_0 l0_0.length c0_0, .int .i64 a0_1], .int .i64 a1_2] ?_; (with_reducible refine (impl_KeyOf.calls k _ _ l0_0 a0_1 a1_2 t568 _ ?side1 ?side2 A3.out).mono ?_); (case side1 => repeat (first | exact (Kd.V_reads' HO0_0.out).2.2 | (with_reducible refine Kd.C_alloc ?_ _) | (with_reducible refine Kd.C_drewN ?_ _) | (with_reducible refine Kd.C_drew ?_))); (case side2 => exact (Kd.V_reads' HO0_0.out).2.1); rintro e w21 ⟨rfl, hb⟩; refine ⟨_, rfl, ?_⟩; replace HO0_0 := Aside0.mk (Kd.V_below (kv HO0_0.out) hb); replace BK566 := bb BK566 hb; replace BK567 := bb BK567 hb; replace HB := bs HB hb; (try clear hb); (try clear hb2); (try clear hk); (try clear hi); obtain ⟨hcz22_0, hcz22_1, hcz22_2, hfz22_0, hfz22_1, hfz22_2⟩ := c3 BK567; obtain ⟨hcz23_0, hcz23_1, hfz23_0, hfz23_1⟩ := c2 BK566; have p569 : 0 ≤ (a1_1 : Int) := od; have q569 : a1_1 < (l0_0.length : Int) := od; obtain ⟨ad569, e569, hx569_0⟩ := Kd.at_int (Kd.V_reads' HO0_0.out).2.2 a1_1 p569 q569; cases e569; replace p569 := eq_true p569; replace q569 := eq_true q569))
     go_ret2
     exact ⟨_, er, Kd.V_nil _ _ _ _ _, tb HB⟩
   ·rw [if_neg c6] at H
    exact absurd H (by simp)
  ·rw [if_neg c5] at H
   exact absurd H (by simp)
 ·rw [if_neg c4] at H
  have c4b0 : (a1_0 == 1) = false := beq_eq_false_iff_ne.mpr c4
  have c4b1 : (a1_0 != 1) = true := bne_iff_ne.mpr c4
  by_cases c24 : a1_0 = 2
  ·rw [if_pos c24] at H
   have c24b0 : (a1_0 == 2) = true := beq_iff_eq.mpr c24
   have c24b1 : (a1_0 != 2) = false := bne_eq_false_iff_eq.mpr c24
   clear c24
   by_cases c25 : 0 ≤ a1_1
   ·rw [if_pos c25] at H
    have c25b0 := decide_eq_true c25
    clear c25
    by_cases c26 : a1_1 < (l0_0.length : Int)
    ·rw [if_pos c26] at H
     have c26b0 := decide_eq_true c26
     clear c26
     by_cases c27 : (rd l0_0 a1_1) = 0
     ·rw [if_pos c27] at H
      have c27b0 : ((rd l0_0 a1_1) == 0) = true := beq_iff_eq.mpr c27
      have c27b1 : ((rd l0_0 a1_1) != 0) = false := bne_eq_false_iff_eq.mpr c27
      clear c27
      simp only [Option.some.injEq, Prod.mk.injEq] at H
      obtain ⟨rfl, rfl⟩ := H
      go_enter Try.func110, Try.ntmps110
      try go_wp2_with (first | ((with_reducible refine gate_dst (N := 2) rfl ?_); refine bx (N := 2) (cs := #[.slice A0_0 l0_0.length c0_0, .int .i64 a0_1]) (t := 65) ?_; intro gb566 hg w28 hbox hb; replace HO0_0 := Aside0.mk (Kd.V_below (Kd.V_elderB (kv HO0_0.out) gb566 (Nat.le_of_eq hg.symm)) hb); have BK566 := Aside0.mk (hbox); have GW566 := Aside0.mk (ge_ hg HB); have GE566 := Aside0.mk (ge_ hg HB); replace HB := bs HB hb; clear hb hbox hg) | ((with_reducible refine gate_dst (N := 3) rfl ?_); refine bx (N := 3) (cs := #[.int .i64 a1_0, .int .i64 a1_1, .int .i64 a1_2]) (t := 68) ?_; intro gb567 hg w29 hbox hb; replace HO0_0 := Aside0.mk (Kd.V_below (Kd.V_elderB (kv HO0_0.out) gb567 (Nat.le_of_eq hg.symm)) hb); have BK567 := Aside0.mk (hbox); have GW567 := Aside0.mk (ge_ hg HB); have GE567 := Aside0.mk (ge_ hg HB); replace HB := bs HB hb; have NB566_567 := Aside0.mk (nl_ hg BK566); have NB567_566 := Aside0.mk (ng_ hg BK566); replace BK566 := bb BK566 hb; clear hb hbox hg; have hnb30 := NB566_567.out; have hnc30 := NB567_566.out; obtain ⟨hcz31_0, hcz31_1, hfz31_0, hfz31_1⟩ := c2 BK566; obtain ⟨hcz32_0, hcz32_1, hcz32_2, hfz32_0, hfz32_1, hfz32_2⟩ := c3 BK567) | ((with_reducible refine gate_callee (f := 161) rfl ?_); refine gL 10 Try.func161 #[.agg #[.slice A0_0 l0_0.length c0_0, .int .i64 a0_1], .int .i64 a1_2] ?_; (with_reducible refine (impl_KeyOf.calls k _ _ l0_0 a0_1 a1_2 t568 _ ?side1 ?side2 A3.out).mono ?_); (case side1 => repeat (first | exact (Kd.V_reads' HO0_0.out).2.2 | (with_reducible refine Kd.C_alloc ?_ _) | (with_reducible refine Kd.C_drewN ?_ _) | (with_reducible refine Kd.C_drew ?_))); (case side2 => exact (Kd.V_reads' HO0_0.out).2.1); rintro e w33 ⟨rfl, hb⟩; refine ⟨_, rfl, ?_⟩; replace HO0_0 := Aside0.mk (Kd.V_below (kv HO0_0.out) hb); replace BK566 := bb BK566 hb; replace BK567 := bb BK567 hb; replace HB := bs HB hb; (try clear hb); (try clear hb2); (try clear hk); (try clear hi); obtain ⟨hcz34_0, hcz34_1, hcz34_2, hfz34_0, hfz34_1, hfz34_2⟩ := c3 BK567))
      replace HO0_0 := Aside0.mk (Kd.V_drew HO0_0.out)
      replace BK566 := bd BK566
      replace BK567 := bd BK567
      replace HB := Aside0.mk (below_drew1 HB.out)
      have p570 : 0 ≤ (a1_1 : Int) := od
      have q570 : a1_1 < (l0_0.length : Int) := od
      obtain ⟨ad570, e570, hx570_0⟩ := Kd.at_int (Kd.V_reads' HO0_0.out).2.2 a1_1 p570 q570
      cases e570
      replace p570 := eq_true p570
      replace q570 := eq_true q570
      refine start_ (n := 19) (S := fun w' => w'.cell? ⟨gb566, 0, none⟩ = some (.slice (some ad570) l0_0.length c0_0) ∧ w'.cell? ⟨gb566, 1, none⟩ = some (.int .i64 a0_1) ∧ w'.cell? ⟨gb567, 0, none⟩ = some (.int .i64 a1_0) ∧ w'.cell? ⟨gb567, 1, none⟩ = some (.int .i64 a1_1) ∧ w'.cell? ⟨gb567, 2, none⟩ = some (.int .i64 a1_2) ∧ w'.cell? (ad570.add (a1_1).toNat) = some (.int .i64 (rd l0_0 a1_1))) (ds := []) #[false, false, false, false, false, false, false, false, false, false, false, false, false, false, false, false, false, false, false] (by kernel_rfl) rfl rfl ⟨cz BK566 0, cz BK566 1, cz BK567 0, cz BK567 1, cz BK567 2, hx570_0⟩ (fun hHeld => ?_); refine with_tabW impl_success.tab6 impl_success.bits6 (fun HT_ HW_ => ?_)
      generalize w33.drew = w35 at HO0_0 BK566 BK567 HB hx570_0 hHeld ⊢
      refine pu 0 28 ?_
      refine pu 2 30 ?_
      refine ta 1 29 ?_
      refine ta 3 31 ?_
      refine pu 4 32 ?_
      refine ta 5 33 ?_
      refine pu 6 34 ?_
      refine pu 7 35 ?_
      refine pn 8 36 ?_
      refine pn 9 37 ?_
      refine pn 10 38 ?_
      refine pn 11 39 ?_
      refine pn 12 40 ?_
      refine pn 13 41 ?_
      refine pn 14 42 ?_
      refine pn 15 43 ?_
      refine pu 16 44 ?_
      refine pu 17 4 ?_
      refine pu 18 5 ?_
      refine done_ (done_of HT_.out (by kernel_rfl)) ?_
      try go_wp2
      go_ret2
      exact ⟨_, er, Kd.V_nil _ _ _ _ _, tb HB⟩
     ·rw [if_neg c27] at H
      have c27b0 : ((rd l0_0 a1_1) == 0) = false := beq_eq_false_iff_ne.mpr c27
      have c27b1 : ((rd l0_0 a1_1) != 0) = true := bne_iff_ne.mpr c27
      by_cases c36 : t568 < 0
      ·rw [if_pos c36] at H
       have c36b0 := decide_eq_true c36
       clear c36
       simp only [Option.some.injEq, Prod.mk.injEq] at H
       obtain ⟨rfl, rfl⟩ := H
       go_enter Try.func110, Try.ntmps110
       try go_wp2_with (first | ((with_reducible refine gate_dst (N := 2) rfl ?_); refine bx (N := 2) (cs := #[.slice A0_0 l0_0.length c0_0, .int .i64 a0_1]) (t := 65) ?_; intro gb566 hg w37 hbox hb; replace HO0_0 := Aside0.mk (Kd.V_below (Kd.V_elderB (kv HO0_0.out) gb566 (Nat.le_of_eq hg.symm)) hb); have BK566 := Aside0.mk (hbox); have GW566 := Aside0.mk (ge_ hg HB); have GE566 := Aside0.mk (ge_ hg HB); replace HB := bs HB hb; clear hb hbox hg) | ((with_reducible refine gate_dst (N := 3) rfl ?_); refine bx (N := 3) (cs := #[.int .i64 a1_0, .int .i64 a1_1, .int .i64 a1_2]) (t := 68) ?_; intro gb567 hg w38 hbox hb; replace HO0_0 := Aside0.mk (Kd.V_below (Kd.V_elderB (kv HO0_0.out) gb567 (Nat.le_of_eq hg.symm)) hb); have BK567 := Aside0.mk (hbox); have GW567 := Aside0.mk (ge_ hg HB); have GE567 := Aside0.mk (ge_ hg HB); replace HB := bs HB hb; have NB566_567 := Aside0.mk (nl_ hg BK566); have NB567_566 := Aside0.mk (ng_ hg BK566); replace BK566 := bb BK566 hb; clear hb hbox hg; have hnb39 := NB566_567.out; have hnc39 := NB567_566.out; obtain ⟨hcz40_0, hcz40_1, hfz40_0, hfz40_1⟩ := c2 BK566; obtain ⟨hcz41_0, hcz41_1, hcz41_2, hfz41_0, hfz41_1, hfz41_2⟩ := c3 BK567) | ((with_reducible refine gate_callee (f := 161) rfl ?_); refine gL 10 Try.func161 #[.agg #[.slice A0_0 l0_0.length c0_0, .int .i64 a0_1], .int .i64 a1_2] ?_; (with_reducible refine (impl_KeyOf.calls k _ _ l0_0 a0_1 a1_2 t568 _ ?side1 ?side2 A3.out).mono ?_); (case side1 => repeat (first | exact (Kd.V_reads' HO0_0.out).2.2 | (with_reducible refine Kd.C_alloc ?_ _) | (with_reducible refine Kd.C_drewN ?_ _) | (with_reducible refine Kd.C_drew ?_))); (case side2 => exact (Kd.V_reads' HO0_0.out).2.1); rintro e w42 ⟨rfl, hb⟩; refine ⟨_, rfl, ?_⟩; replace HO0_0 := Aside0.mk (Kd.V_below (kv HO0_0.out) hb); replace BK566 := bb BK566 hb; replace BK567 := bb BK567 hb; replace HB := bs HB hb; (try clear hb); (try clear hb2); (try clear hk); (try clear hi); obtain ⟨hcz43_0, hcz43_1, hcz43_2, hfz43_0, hfz43_1, hfz43_2⟩ := c3 BK567))
       replace HO0_0 := Aside0.mk (Kd.V_drew HO0_0.out)
       replace BK566 := bd BK566
       replace BK567 := bd BK567
       replace HB := Aside0.mk (below_drew1 HB.out)
       have p570 : 0 ≤ (a1_1 : Int) := od
       have q570 : a1_1 < (l0_0.length : Int) := od
       obtain ⟨ad570, e570, hx570_0⟩ := Kd.at_int (Kd.V_reads' HO0_0.out).2.2 a1_1 p570 q570
       cases e570
       replace p570 := eq_true p570
       replace q570 := eq_true q570
       refine start_ (n := 19) (S := fun w' => w'.cell? ⟨gb566, 0, none⟩ = some (.slice (some ad570) l0_0.length c0_0) ∧ w'.cell? ⟨gb566, 1, none⟩ = some (.int .i64 a0_1) ∧ w'.cell? ⟨gb567, 0, none⟩ = some (.int .i64 a1_0) ∧ w'.cell? ⟨gb567, 1, none⟩ = some (.int .i64 a1_1) ∧ w'.cell? ⟨gb567, 2, none⟩ = some (.int .i64 a1_2) ∧ w'.cell? (ad570.add (a1_1).toNat) = some (.int .i64 (rd l0_0 a1_1))) (ds := []) #[false, false, false, false, false, false, false, false, false, false, false, false, false, false, false, false, false, false, false] (by kernel_rfl) rfl rfl ⟨cz BK566 0, cz BK566 1, cz BK567 0, cz BK567 1, cz BK567 2, hx570_0⟩ (fun hHeld => ?_); refine with_tabW impl_success.tab6 impl_success.bits6 (fun HT_ HW_ => ?_)
       generalize w42.drew = w44 at HO0_0 BK566 BK567 HB hx570_0 hHeld ⊢
       refine pu 0 28 ?_
       refine pu 2 30 ?_
       refine ta 1 29 ?_
       refine ta 3 31 ?_
       refine pu 4 32 ?_
       refine ta 5 33 ?_
       refine pu 6 34 ?_
       refine pu 7 35 ?_
       refine pu 8 36 ?_
       refine pu 9 37 ?_
       refine pu 10 38 ?_
       refine pn 11 39 ?_
       refine pn 12 40 ?_
       refine pn 13 41 ?_
       refine pn 14 42 ?_
       refine pu 15 43 ?_
       refine pu 16 44 ?_
       refine pu 17 4 ?_
       refine pu 18 5 ?_
       refine done_ (done_of HT_.out (by kernel_rfl)) ?_
       try go_wp2
       go_ret2
       exact ⟨_, er, Kd.V_nil _ _ _ _ _, tb HB⟩
      ·rw [if_neg c36] at H
       have c36b0 := decide_eq_false c36
       clear c36
       simp only [Option.some.injEq, Prod.mk.injEq] at H
       obtain ⟨rfl, rfl⟩ := H
       go_enter Try.func110, Try.ntmps110
       try go_wp2_with (first | ((with_reducible refine gate_dst (N := 2) rfl ?_); refine bx (N := 2) (cs := #[.slice A0_0 l0_0.length c0_0, .int .i64 a0_1]) (t := 65) ?_; intro gb566 hg w45 hbox hb; replace HO0_0 := Aside0.mk (Kd.V_below (Kd.V_elderB (kv HO0_0.out) gb566 (Nat.le_of_eq hg.symm)) hb); have BK566 := Aside0.mk (hbox); have GW566 := Aside0.mk (ge_ hg HB); have GE566 := Aside0.mk (ge_ hg HB); replace HB := bs HB hb; clear hb hbox hg) | ((with_reducible refine gate_dst (N := 3) rfl ?_); refine bx (N := 3) (cs := #[.int .i64 a1_0, .int .i64 a1_1, .int .i64 a1_2]) (t := 68) ?_; intro gb567 hg w46 hbox hb; replace HO0_0 := Aside0.mk (Kd.V_below (Kd.V_elderB (kv HO0_0.out) gb567 (Nat.le_of_eq hg.symm)) hb); have BK567 := Aside0.mk (hbox); have GW567 := Aside0.mk (ge_ hg HB); have GE567 := Aside0.mk (ge_ hg HB); replace HB := bs HB hb; have NB566_567 := Aside0.mk (nl_ hg BK566); have NB567_566 := Aside0.mk (ng_ hg BK566); replace BK566 := bb BK566 hb; clear hb hbox hg; have hnb47 := NB566_567.out; have hnc47 := NB567_566.out; obtain ⟨hcz48_0, hcz48_1, hfz48_0, hfz48_1⟩ := c2 BK566; obtain ⟨hcz49_0, hcz49_1, hcz49_2, hfz49_0, hfz49_1, hfz49_2⟩ := c3 BK567) | ((with_reducible refine gate_callee (f := 161) rfl ?_); refine gL 10 Try.func161 #[.agg #[.slice A0_0 l0_0.length c0_0, .int .i64 a0_1], .int .i64 a1_2] ?_; (with_reducible refine (impl_KeyOf.calls k _ _ l0_0 a0_1 a1_2 t568 _ ?side1 ?side2 A3.out).mono ?_); (case side1 => repeat (first | exact (Kd.V_reads' HO0_0.out).2.2 | (with_reducible refine Kd.C_alloc ?_ _) | (with_reducible refine Kd.C_drewN ?_ _) | (with_reducible refine Kd.C_drew ?_))); (case side2 => exact (Kd.V_reads' HO0_0.out).2.1); rintro e w50 ⟨rfl, hb⟩; refine ⟨_, rfl, ?_⟩; replace HO0_0 := Aside0.mk (Kd.V_below (kv HO0_0.out) hb); replace BK566 := bb BK566 hb; replace BK567 := bb BK567 hb; replace HB := bs HB hb; (try clear hb); (try clear hb2); (try clear hk); (try clear hi); obtain ⟨hcz51_0, hcz51_1, hcz51_2, hfz51_0, hfz51_1, hfz51_2⟩ := c3 BK567))
       replace HO0_0 := Aside0.mk (Kd.V_drew HO0_0.out)
       replace BK566 := bd BK566
       replace BK567 := bd BK567
       replace HB := Aside0.mk (below_drew1 HB.out)
       have p570 : 0 ≤ (a1_1 : Int) := od
       have q570 : a1_1 < (l0_0.length : Int) := od
       obtain ⟨ad570, e570, hx570_0⟩ := Kd.at_int (Kd.V_reads' HO0_0.out).2.2 a1_1 p570 q570
       cases e570
       replace p570 := eq_true p570
       replace q570 := eq_true q570
       refine start_ (n := 19) (S := fun w' => w'.cell? ⟨gb566, 0, none⟩ = some (.slice (some ad570) l0_0.length c0_0) ∧ w'.cell? ⟨gb566, 1, none⟩ = some (.int .i64 a0_1) ∧ w'.cell? ⟨gb567, 0, none⟩ = some (.int .i64 a1_0) ∧ w'.cell? ⟨gb567, 1, none⟩ = some (.int .i64 a1_1) ∧ w'.cell? ⟨gb567, 2, none⟩ = some (.int .i64 a1_2) ∧ w'.cell? (ad570.add (a1_1).toNat) = some (.int .i64 (rd l0_0 a1_1))) (ds := []) #[false, false, false, false, false, false, false, false, false, false, false, false, false, false, false, false, false, false, false] (by kernel_rfl) rfl rfl ⟨cz BK566 0, cz BK566 1, cz BK567 0, cz BK567 1, cz BK567 2, hx570_0⟩ (fun hHeld => ?_); refine with_tabW impl_success.tab6 impl_success.bits6 (fun HT_ HW_ => ?_)
       generalize w50.drew = w52 at HO0_0 BK566 BK567 HB hx570_0 hHeld ⊢
       refine pu 0 28 ?_
       refine pu 2 30 ?_
       refine ta 1 29 ?_
       refine ta 3 31 ?_
       refine pu 4 32 ?_
       refine ta 5 33 ?_
       refine pu 6 34 ?_
       refine pu 7 35 ?_
       refine pu 8 36 ?_
       refine pu 9 37 ?_
       refine pu 10 38 ?_
       refine pu 11 39 ?_
       refine pu 12 40 ?_
       refine pu 17 4 ?_
       refine ta 13 41 ?_
       refine pu 14 42 ?_
       refine pu 15 43 ?_
       refine pu 16 44 ?_
       refine pu 18 5 ?_
       refine done_ (done_of HT_.out (by kernel_rfl)) ?_
       try go_wp2
       go_ret2
       exact ⟨_, er, Kd.V_nil _ _ _ _ _, tb HB⟩
    ·rw [if_neg c26] at H
     exact absurd H (by simp)
   ·rw [if_neg c25] at H
    exact absurd H (by simp)
  ·rw [if_neg c24] at H
   have c24b0 : (a1_0 == 2) = false := beq_eq_false_iff_ne.mpr c24
   have c24b1 : (a1_0 != 2) = true := bne_iff_ne.mpr c24
   by_cases c53 : a1_0 = 3
   ·rw [if_pos c53] at H
    have c53b0 : (a1_0 == 3) = true := beq_iff_eq.mpr c53
    have c53b1 : (a1_0 != 3) = false := bne_eq_false_iff_eq.mpr c53
    clear c53
    by_cases c54 : 0 ≤ a1_1
    ·rw [if_pos c54] at H
     have c54b0 := decide_eq_true c54
     clear c54
     by_cases c55 : a1_1 < (l0_0.length : Int)
     ·rw [if_pos c55] at H
      have c55b0 := decide_eq_true c55
      clear c55
      simp only [Option.some.injEq, Prod.mk.injEq] at H
      obtain ⟨rfl, rfl⟩ := H
      go_enter Try.func110, Try.ntmps110
      try go_wp2_with (first | ((with_reducible refine gate_dst (N := 2) rfl ?_); refine bx (N := 2) (cs := #[.slice A0_0 l0_0.length c0_0, .int .i64 a0_1]) (t := 65) ?_; intro gb566 hg w56 hbox hb; replace HO0_0 := Aside0.mk (Kd.V_below (Kd.V_elderB (kv HO0_0.out) gb566 (Nat.le_of_eq hg.symm)) hb); have BK566 := Aside0.mk (hbox); have GW566 := Aside0.mk (ge_ hg HB); have GE566 := Aside0.mk (ge_ hg HB); replace HB := bs HB hb; clear hb hbox hg) | ((with_reducible refine gate_dst (N := 3) rfl ?_); refine bx (N := 3) (cs := #[.int .i64 a1_0, .int .i64 a1_1, .int .i64 a1_2]) (t := 68) ?_; intro gb567 hg w57 hbox hb; replace HO0_0 := Aside0.mk (Kd.V_below (Kd.V_elderB (kv HO0_0.out) gb567 (Nat.le_of_eq hg.symm)) hb); have BK567 := Aside0.mk (hbox); have GW567 := Aside0.mk (ge_ hg HB); have GE567 := Aside0.mk (ge_ hg HB); replace HB := bs HB hb; have NB566_567 := Aside0.mk (nl_ hg BK566); have NB567_566 := Aside0.mk (ng_ hg BK566); replace BK566 := bb BK566 hb; clear hb hbox hg; have hnb58 := NB566_567.out; have hnc58 := NB567_566.out; obtain ⟨hcz59_0, hcz59_1, hfz59_0, hfz59_1⟩ := c2 BK566; obtain ⟨hcz60_0, hcz60_1, hcz60_2, hfz60_0, hfz60_1, hfz60_2⟩ := c3 BK567) | ((with_reducible refine gate_callee (f := 161) rfl ?_); refine gL 10 Try.func161 #[.agg #[.slice A0_0 l0_0.length c0_0, .int .i64 a0_1], .int .i64 a1_2] ?_; (with_reducible refine (impl_KeyOf.calls k _ _ l0_0 a0_1 a1_2 t568 _ ?side1 ?side2 A3.out).mono ?_); (case side1 => repeat (first | exact (Kd.V_reads' HO0_0.out).2.2 | (with_reducible refine Kd.C_alloc ?_ _) | (with_reducible refine Kd.C_drewN ?_ _) | (with_reducible refine Kd.C_drew ?_))); (case side2 => exact (Kd.V_reads' HO0_0.out).2.1); rintro e w61 ⟨rfl, hb⟩; refine ⟨_, rfl, ?_⟩; replace HO0_0 := Aside0.mk (Kd.V_below (kv HO0_0.out) hb); replace BK566 := bb BK566 hb; replace BK567 := bb BK567 hb; replace HB := bs HB hb; (try clear hb); (try clear hb2); (try clear hk); (try clear hi); obtain ⟨hcz62_0, hcz62_1, hcz62_2, hfz62_0, hfz62_1, hfz62_2⟩ := c3 BK567))
      replace HO0_0 := Aside0.mk (Kd.V_drew HO0_0.out)
      replace BK566 := bd BK566
      replace BK567 := bd BK567
      replace HB := Aside0.mk (below_drew1 HB.out)
      have p571 : 0 ≤ (a1_1 : Int) := od
      have q571 : a1_1 < (l0_0.length : Int) := od
      obtain ⟨ad571, e571, hx571_0⟩ := Kd.at_int (Kd.V_reads' HO0_0.out).2.2 a1_1 p571 q571
      cases e571
      replace p571 := eq_true p571
      replace q571 := eq_true q571
      refine start_ (n := 9) (S := fun w' => w'.cell? ⟨gb566, 0, none⟩ = some (.slice (some ad571) l0_0.length c0_0) ∧ w'.cell? ⟨gb566, 1, none⟩ = some (.int .i64 a0_1) ∧ w'.cell? ⟨gb567, 0, none⟩ = some (.int .i64 a1_0) ∧ w'.cell? ⟨gb567, 1, none⟩ = some (.int .i64 a1_1) ∧ w'.cell? ⟨gb567, 2, none⟩ = some (.int .i64 a1_2) ∧ w'.cell? (ad571.add (a1_1).toNat) = some (.int .i64 (rd l0_0 a1_1))) (ds := []) #[false, false, false, false, false, false, false, false, false] (by kernel_rfl) rfl rfl ⟨cz BK566 0, cz BK566 1, cz BK567 0, cz BK567 1, cz BK567 2, hx571_0⟩ (fun hHeld => ?_); refine with_tabW impl_success.tab8 impl_success.bits8 (fun HT_ HW_ => ?_)
      generalize w61.drew = w63 at HO0_0 BK566 BK567 HB hx571_0 hHeld ⊢
      refine pu 0 47 ?_
      refine pu 2 49 ?_
      refine pu 7 4 ?_
      refine ta 1 48 ?_
      refine ta 3 50 ?_
      refine pu 4 51 ?_
      refine ta 5 52 ?_
      refine pu 6 53 ?_
      refine pu 8 5 ?_
      refine done_ (done_of HT_.out (by kernel_rfl)) ?_
      try go_wp2
      go_ret2
      exact ⟨_, er, Kd.V_nil _ _ _ _ _, tb HB⟩
     ·rw [if_neg c55] at H
      exact absurd H (by simp)
    ·rw [if_neg c54] at H
     exact absurd H (by simp)
   ·rw [if_neg c53] at H
    have c53b0 : (a1_0 == 3) = false := beq_eq_false_iff_ne.mpr c53
    have c53b1 : (a1_0 != 3) = true := bne_iff_ne.mpr c53
    by_cases c64 : a1_0 = 4
    ·rw [if_pos c64] at H
     have c64b0 : (a1_0 == 4) = true := beq_iff_eq.mpr c64
     have c64b1 : (a1_0 != 4) = false := bne_eq_false_iff_eq.mpr c64
     clear c64
     by_cases c65 : 0 ≤ a1_1
     ·rw [if_pos c65] at H
      have c65b0 := decide_eq_true c65
      clear c65
      by_cases c66 : a1_1 < (l0_0.length : Int)
      ·rw [if_pos c66] at H
       have c66b0 := decide_eq_true c66
       clear c66
       obtain ⟨y573, hy573⟩ : ∃ y_ : List Int, y_ = (([rd l0_0 a1_1] : List Int)) := ⟨_, rfl⟩
       replace H : (some (y573, ((rd l0_0 a1_1) != 0))) = some (r1, r2) := by first | (rw [hy573]; with_reducible exact H) | (have H2_ := (Option.bind_some _ _).symm.trans H; rw [hy573]; with_reducible exact H2_) | (have H2_ := (Option.bind_some _ _).symm.trans H; with_reducible exact H2_) | with_reducible exact H | (rw [hy573]; exact H) | exact H
       have Ny573 := Aside0.mk hy573
       clear hy573
       simp only [Option.some.injEq, Prod.mk.injEq] at H
       obtain ⟨rfl, rfl⟩ := H
       go_enter Try.func110, Try.ntmps110
       try go_wp2_with (first | ((with_reducible refine gate_dst (N := 2) rfl ?_); refine bx (N := 2) (cs := #[.slice A0_0 l0_0.length c0_0, .int .i64 a0_1]) (t := 65) ?_; intro gb566 hg w67 hbox hb; replace HO0_0 := Aside0.mk (Kd.V_below (Kd.V_elderB (kv HO0_0.out) gb566 (Nat.le_of_eq hg.symm)) hb); have BK566 := Aside0.mk (hbox); have GW566 := Aside0.mk (ge_ hg HB); have GE566 := Aside0.mk (ge_ hg HB); replace HB := bs HB hb; clear hb hbox hg) | ((with_reducible refine gate_dst (N := 3) rfl ?_); refine bx (N := 3) (cs := #[.int .i64 a1_0, .int .i64 a1_1, .int .i64 a1_2]) (t := 68) ?_; intro gb567 hg w68 hbox hb; replace HO0_0 := Aside0.mk (Kd.V_below (Kd.V_elderB (kv HO0_0.out) gb567 (Nat.le_of_eq hg.symm)) hb); have BK567 := Aside0.mk (hbox); have GW567 := Aside0.mk (ge_ hg HB); have GE567 := Aside0.mk (ge_ hg HB); replace HB := bs HB hb; have NB566_567 := Aside0.mk (nl_ hg BK566); have NB567_566 := Aside0.mk (ng_ hg BK566); replace BK566 := bb BK566 hb; clear hb hbox hg; have hnb69 := NB566_567.out; have hnc69 := NB567_566.out; obtain ⟨hcz70_0, hcz70_1, hfz70_0, hfz70_1⟩ := c2 BK566; obtain ⟨hcz71_0, hcz71_1, hcz71_2, hfz71_0, hfz71_1, hfz71_2⟩ := c3 BK567) | ((with_reducible refine gate_callee (f := 161) rfl ?_); refine gL 10 Try.func161 #[.agg #[.slice A0_0 l0_0.length c0_0, .int .i64 a0_1], .int .i64 a1_2] ?_; (with_reducible refine (impl_KeyOf.calls k _ _ l0_0 a0_1 a1_2 t568 _ ?side1 ?side2 A3.out).mono ?_); (case side1 => repeat (first | exact (Kd.V_reads' HO0_0.out).2.2 | (with_reducible refine Kd.C_alloc ?_ _) | (with_reducible refine Kd.C_drewN ?_ _) | (with_reducible refine Kd.C_drew ?_))); (case side2 => exact (Kd.V_reads' HO0_0.out).2.1); rintro e w72 ⟨rfl, hb⟩; refine ⟨_, rfl, ?_⟩; replace HO0_0 := Aside0.mk (Kd.V_below (kv HO0_0.out) hb); replace BK566 := bb BK566 hb; replace BK567 := bb BK567 hb; replace HB := bs HB hb; (try clear hb); (try clear hb2); (try clear hk); (try clear hi); obtain ⟨hcz73_0, hcz73_1, hcz73_2, hfz73_0, hfz73_1, hfz73_2⟩ := c3 BK567))
       replace HO0_0 := Aside0.mk (Kd.V_drew HO0_0.out)
       replace BK566 := bd BK566
       replace BK567 := bd BK567
       replace HB := Aside0.mk (below_drew1 HB.out)
       have p572 : 0 ≤ (a1_1 : Int) := od
       have q572 : a1_1 < (l0_0.length : Int) := od
       obtain ⟨ad572, e572, hx572_0⟩ := Kd.at_int (Kd.V_reads' HO0_0.out).2.2 a1_1 p572 q572
       cases e572
       replace p572 := eq_true p572
       replace q572 := eq_true q572
       have p576 : 0 ≤ (a1_1 : Int) := od
       have q576 : a1_1 < (l0_0.length : Int) := od
       obtain ⟨ad576, e576, hx576_0⟩ := Kd.at_int (Kd.V_reads' HO0_0.out).2.2 a1_1 p576 q576
       obtain rfl : ad572 = ad576 := (by injection e576)
       replace p576 := eq_true p576
       replace q576 := eq_true q576
       refine start_ (n := 16) (S := fun w' => w'.cell? ⟨gb566, 0, none⟩ = some (.slice (some ad572) l0_0.length c0_0) ∧ w'.cell? ⟨gb566, 1, none⟩ = some (.int .i64 a0_1) ∧ w'.cell? ⟨gb567, 0, none⟩ = some (.int .i64 a1_0) ∧ w'.cell? ⟨gb567, 1, none⟩ = some (.int .i64 a1_1) ∧ w'.cell? ⟨gb567, 2, none⟩ = some (.int .i64 a1_2) ∧ w'.cell? (ad572.add (a1_1).toNat) = some (.int .i64 (rd l0_0 a1_1)) ∧ w'.cell? (ad572.add (a1_1).toNat) = some (.int .i64 (rd l0_0 a1_1))) (ds := []) #[false, false, false, false, false, false, false, false, false, false, false, false, false, false, false, false] (by kernel_rfl) rfl rfl ⟨cz BK566 0, cz BK566 1, cz BK567 0, cz BK567 1, cz BK567 2, hx572_0, hx576_0⟩ (fun hHeld => ?_); refine with_tabW impl_success.tab10 impl_success.bits10 (fun HT_ HW_ => ?_)
       generalize w72.drew = w74 at HO0_0 BK566 BK567 HB hx572_0 hx576_0 hHeld ⊢
       refine pu 0 56 ?_
       refine pu 2 58 ?_
       refine pu 7 63 ?_
       refine pu 9 65 ?_
       refine ta 1 57 ?_
       refine ta 3 59 ?_
       refine pu 4 60 ?_
       refine ta 5 61 ?_
       refine ta 8 64 ?_
       refine ta 10 66 ?_
       refine pu 11 67 ?_
       refine ta 12 68 ?_
       refine pu 13 69 ?_
       refine one_ (i := 6) (N := some 62) #[true, true, true, true, true, true, true, true, true, true, true, true, true, true, false, false] rfl rfl (one_of HT_.out (by kernel_rfl)) (by decide) (fun K hK => ?_)
       refine Kd.R_lit_step (Kd.int .i64) _ 3 ?hg (N := 62) ?hd (xs := ([rd l0_0 a1_1] : List Int)) (inner := [.int .i64 (rd l0_0 a1_1)]) (ok := fun _ => True) (okp := fun _ => True) ?hr ?hp (fun _ hk => hk) trivial (Below.refl _ _) (Nat.le_refl _) (by simp) ?_; (case hd => rfl); (case hg => rfl); (case hr => first | (go_simp; done) | (go_simp; rfl)); (case hp => exact (Reps.one (show Kd.M (Kd.int .i64) _ _ _ (rd l0_0 a1_1) [.int .i64 (rd l0_0 a1_1)] from rfl) (Reps.none _ _)))
       intro v574 w75 ho76 hb hg_ hnew_
       have HS5_ := (hb.cell (World.block_lt_of_cell? _ _ (hHeld.2.2.2.2.2.1))).trans (hHeld.2.2.2.2.2.1)
       have HS6_ := (hb.cell (World.block_lt_of_cell? _ _ (hHeld.2.2.2.2.2.2))).trans (hHeld.2.2.2.2.2.2)
       clear hg_ hnew_
       (first | rw [← Ny573.out] at ho76 | (simp only [Int.reduceToNat] at ho76; rw [← Ny573.out] at ho76))
       replace HO0_0 := Aside0.mk (Kd.V_elder' (kv HO0_0.out) (Kd.R_base ho76) hb)
       have HO575 := Aside0.mk (Kd.R_lower (Kd.R_newM (M := fun k_ => (w.heap.size ≤ k_)) ho76 (below_size (tb HB)) (fun k_ h_ => h_)) (below_size (tb HB)))
       replace BK566 := bb BK566 hb
       replace BK567 := bb BK567 hb
       replace HB := bs HB hb
       clear hb ho76
       refine hK.out _ _ ⟨cz BK566 0, cz BK566 1, cz BK567 0, cz BK567 1, cz BK567 2, HS5_, HS6_⟩ (fun hHeld => ?_)
       clear hK K
       refine nm 62 ?_
       refine pu 14 4 ?_
       refine pu 15 5 ?_
       refine done_ (done_of HT_.out (by kernel_rfl)) ?_
       try go_wp2
       go_ret2
       exact ⟨_, er, Kd.V_mono (Kd.R_V (kr (Kd.R_mono HO575.out (fun _ hk => hk.1)))) (fun k_ hk => by first | exact ⟨(.inr (hk.1)), hk.2⟩ | exact (.inr (hk))), tb HB⟩
      ·rw [if_neg c66] at H
       exact absurd H (by simp)
     ·rw [if_neg c65] at H
      exact absurd H (by simp)
    ·rw [if_neg c64] at H
     have c64b0 : (a1_0 == 4) = false := beq_eq_false_iff_ne.mpr c64
     have c64b1 : (a1_0 != 4) = true := bne_iff_ne.mpr c64
     by_cases c77 : a1_0 = 5
     ·rw [if_pos c77] at H
      have c77b0 : (a1_0 == 5) = true := beq_iff_eq.mpr c77
      have c77b1 : (a1_0 != 5) = false := bne_eq_false_iff_eq.mpr c77
      clear c77
      obtain ⟨y577, hy577⟩ : ∃ y_ : List Int, y_ = (([t568] : List Int)) := ⟨_, rfl⟩
      replace H : (some (y577, decide (t568 ≥ 0))) = some (r1, r2) := by first | (rw [hy577]; with_reducible exact H) | (have H2_ := (Option.bind_some _ _).symm.trans H; rw [hy577]; with_reducible exact H2_) | (have H2_ := (Option.bind_some _ _).symm.trans H; with_reducible exact H2_) | with_reducible exact H | (rw [hy577]; exact H) | exact H
      have Ny577 := Aside0.mk hy577
      clear hy577
      simp only [Option.some.injEq, Prod.mk.injEq] at H
      obtain ⟨rfl, rfl⟩ := H
      go_enter Try.func110, Try.ntmps110
      go_wp2_with (first | ((with_reducible refine gate_dst (N := 2) rfl ?_); refine bx (N := 2) (cs := #[.slice A0_0 l0_0.length c0_0, .int .i64 a0_1]) (t := 65) ?_; intro gb566 hg w78 hbox hb; replace HO0_0 := Aside0.mk (Kd.V_below (Kd.V_elderB (kv HO0_0.out) gb566 (Nat.le_of_eq hg.symm)) hb); have BK566 := Aside0.mk (hbox); have GW566 := Aside0.mk (ge_ hg HB); have GE566 := Aside0.mk (ge_ hg HB); replace HB := bs HB hb; clear hb hbox hg) | ((with_reducible refine gate_dst (N := 3) rfl ?_); refine bx (N := 3) (cs := #[.int .i64 a1_0, .int .i64 a1_1, .int .i64 a1_2]) (t := 68) ?_; intro gb567 hg w79 hbox hb; replace HO0_0 := Aside0.mk (Kd.V_below (Kd.V_elderB (kv HO0_0.out) gb567 (Nat.le_of_eq hg.symm)) hb); have BK567 := Aside0.mk (hbox); have GW567 := Aside0.mk (ge_ hg HB); have GE567 := Aside0.mk (ge_ hg HB); replace HB := bs HB hb; have NB566_567 := Aside0.mk (nl_ hg BK566); have NB567_566 := Aside0.mk (ng_ hg BK566); replace BK566 := bb BK566 hb; clear hb hbox hg; have hnb80 := NB566_567.out; have hnc80 := NB567_566.out; obtain ⟨hcz81_0, hcz81_1, hfz81_0, hfz81_1⟩ := c2 BK566; obtain ⟨hcz82_0, hcz82_1, hcz82_2, hfz82_0, hfz82_1, hfz82_2⟩ := c3 BK567) | ((with_reducible refine gate_callee (f := 161) rfl ?_); refine gL 10 Try.func161 #[.agg #[.slice A0_0 l0_0.length c0_0, .int .i64 a0_1], .int .i64 a1_2] ?_; (with_reducible refine (impl_KeyOf.calls k _ _ l0_0 a0_1 a1_2 t568 _ ?side1 ?side2 A3.out).mono ?_); (case side1 => repeat (first | exact (Kd.V_reads' HO0_0.out).2.2 | (with_reducible refine Kd.C_alloc ?_ _) | (with_reducible refine Kd.C_drewN ?_ _) | (with_reducible refine Kd.C_drew ?_))); (case side2 => exact (Kd.V_reads' HO0_0.out).2.1); rintro e w83 ⟨rfl, hb⟩; refine ⟨_, rfl, ?_⟩; replace HO0_0 := Aside0.mk (Kd.V_below (kv HO0_0.out) hb); replace BK566 := bb BK566 hb; replace BK567 := bb BK567 hb; replace HB := bs HB hb; (try clear hb); (try clear hb2); (try clear hk); (try clear hi); obtain ⟨hcz84_0, hcz84_1, hcz84_2, hfz84_0, hfz84_1, hfz84_2⟩ := c3 BK567) | ((with_reducible refine gate_dst (N := 73) rfl ?_); refine Kd.R_lit (Kd.int .i64) _ 3 ?hg (N := 73) ?hd (xs := ([t568] : List Int)) (inner := [.int .i64 t568]) (ok := fun _ => True) (okp := fun _ => True) ?hr ?hp (fun _ hk => hk) trivial (Below.refl _ _) (Nat.le_refl _) (by simp) ?_; (case hd => rfl); (case hg => rfl); (case hr => first | (go_simp; done) | (go_simp; rfl)); (case hp => exact (Reps.one (show Kd.M (Kd.int .i64) _ _ _ t568 [.int .i64 t568] from rfl) (Reps.none _ _))); intro v578 w85 ho86 hb hg_ hnew_; clear hg_ hnew_; (first | rw [← Ny577.out] at ho86 | (simp only [Int.reduceToNat] at ho86; rw [← Ny577.out] at ho86)); replace HO0_0 := Aside0.mk (Kd.V_elder' (kv HO0_0.out) (Kd.R_base ho86) hb); have HO579 := Aside0.mk (Kd.R_lower (Kd.R_newM (M := fun k_ => (w.heap.size ≤ k_)) ho86 (below_size (tb HB)) (fun k_ h_ => h_)) (below_size (tb HB))); replace BK566 := bb BK566 hb; replace BK567 := bb BK567 hb; replace HB := bs HB hb; clear hb ho86))
      go_ret2
      exact ⟨_, er, Kd.V_mono (Kd.R_V (kr (Kd.R_mono HO579.out (fun _ hk => hk.1)))) (fun k_ hk => by first | exact ⟨(.inr (hk.1)), hk.2⟩ | exact (.inr (hk))), tb HB⟩
     ·rw [if_neg c77] at H
      have c77b0 : (a1_0 == 5) = false := beq_eq_false_iff_ne.mpr c77
      have c77b1 : (a1_0 != 5) = true := bne_iff_ne.mpr c77
      by_cases c87 : a1_0 = 6
      ·rw [if_pos c87] at H
       have c87b0 : (a1_0 == 6) = true := beq_iff_eq.mpr c87
       have c87b1 : (a1_0 != 6) = false := bne_eq_false_iff_eq.mpr c87
       clear c87
       replace H := Option.bind_eq_some_iff.mp H
       obtain ⟨t580, A880, H⟩ := H
       replace H : (some ((([t580] : List Int)), true)) = some (r1, r2) := H
       have A88 := Aside0.mk A880
       clear A880
       obtain ⟨y581, hy581⟩ : ∃ y_ : List Int, y_ = (([t580] : List Int)) := ⟨_, rfl⟩
       replace H : (some (y581, true)) = some (r1, r2) := by first | (rw [hy581]; with_reducible exact H) | (have H2_ := (Option.bind_some _ _).symm.trans H; rw [hy581]; with_reducible exact H2_) | (have H2_ := (Option.bind_some _ _).symm.trans H; with_reducible exact H2_) | with_reducible exact H | (rw [hy581]; exact H) | exact H
       have Ny581 := Aside0.mk hy581
       clear hy581
       simp only [Option.some.injEq, Prod.mk.injEq] at H
       obtain ⟨rfl, rfl⟩ := H
       go_enter Try.func110, Try.ntmps110
       go_wp2_with (first | ((with_reducible refine gate_dst (N := 2) rfl ?_); refine bx (N := 2) (cs := #[.slice A0_0 l0_0.length c0_0, .int .i64 a0_1]) (t := 65) ?_; intro gb566 hg w89 hbox hb; replace HO0_0 := Aside0.mk (Kd.V_below (Kd.V_elderB (kv HO0_0.out) gb566 (Nat.le_of_eq hg.symm)) hb); have BK566 := Aside0.mk (hbox); have GW566 := Aside0.mk (ge_ hg HB); have GE566 := Aside0.mk (ge_ hg HB); replace HB := bs HB hb; clear hb hbox hg) | ((with_reducible refine gate_dst (N := 3) rfl ?_); refine bx (N := 3) (cs := #[.int .i64 a1_0, .int .i64 a1_1, .int .i64 a1_2]) (t := 68) ?_; intro gb567 hg w90 hbox hb; replace HO0_0 := Aside0.mk (Kd.V_below (Kd.V_elderB (kv HO0_0.out) gb567 (Nat.le_of_eq hg.symm)) hb); have BK567 := Aside0.mk (hbox); have GW567 := Aside0.mk (ge_ hg HB); have GE567 := Aside0.mk (ge_ hg HB); replace HB := bs HB hb; have NB566_567 := Aside0.mk (nl_ hg BK566); have NB567_566 := Aside0.mk (ng_ hg BK566); replace BK566 := bb BK566 hb; clear hb hbox hg; have hnb91 := NB566_567.out; have hnc91 := NB567_566.out; obtain ⟨hcz92_0, hcz92_1, hfz92_0, hfz92_1⟩ := c2 BK566; obtain ⟨hcz93_0, hcz93_1, hcz93_2, hfz93_0, hfz93_1, hfz93_2⟩ := c3 BK567) | ((with_reducible refine gate_callee (f := 161) rfl ?_); refine gL 10 Try.func161 #[.agg #[.slice A0_0 l0_0.length c0_0, .int .i64 a0_1], .int .i64 a1_2] ?_; (with_reducible refine (impl_KeyOf.calls k _ _ l0_0 a0_1 a1_2 t568 _ ?side1 ?side2 A3.out).mono ?_); (case side1 => repeat (first | exact (Kd.V_reads' HO0_0.out).2.2 | (with_reducible refine Kd.C_alloc ?_ _) | (with_reducible refine Kd.C_drewN ?_ _) | (with_reducible refine Kd.C_drew ?_))); (case side2 => exact (Kd.V_reads' HO0_0.out).2.1); rintro e w94 ⟨rfl, hb⟩; refine ⟨_, rfl, ?_⟩; replace HO0_0 := Aside0.mk (Kd.V_below (kv HO0_0.out) hb); replace BK566 := bb BK566 hb; replace BK567 := bb BK567 hb; replace HB := bs HB hb; (try clear hb); (try clear hb2); (try clear hk); (try clear hi); obtain ⟨hcz95_0, hcz95_1, hcz95_2, hfz95_0, hfz95_1, hfz95_2⟩ := c3 BK567; obtain ⟨hcz96_0, hcz96_1, hfz96_0, hfz96_1⟩ := c2 BK566) | ((with_reducible refine gate_callee (f := 163) rfl ?_); refine gL 81 Try.func163 #[.agg #[.slice A0_0 l0_0.length c0_0, .int .i64 a0_1], .int .i64 a1_1] ?_; (with_reducible refine (impl_HowMany.calls k _ _ l0_0 a0_1 a1_1 t580 _ ?side1 ?side2 A88.out).mono ?_); (case side1 => repeat (first | exact (Kd.V_reads' HO0_0.out).2.2 | (with_reducible refine Kd.C_alloc ?_ _) | (with_reducible refine Kd.C_drewN ?_ _) | (with_reducible refine Kd.C_drew ?_))); (case side2 => exact (Kd.V_reads' HO0_0.out).2.1); rintro e w97 ⟨rfl, hb⟩; refine ⟨_, rfl, ?_⟩; replace HO0_0 := Aside0.mk (Kd.V_below (kv HO0_0.out) hb); replace BK566 := bb BK566 hb; replace BK567 := bb BK567 hb; replace HB := bs HB hb; (try clear hb); (try clear hb2); (try clear hk); (try clear hi)) | ((with_reducible refine gate_dst (N := 82) rfl ?_); refine Kd.R_lit (Kd.int .i64) _ 3 ?hg (N := 82) ?hd (xs := ([t580] : List Int)) (inner := [.int .i64 t580]) (ok := fun _ => True) (okp := fun _ => True) ?hr ?hp (fun _ hk => hk) trivial (Below.refl _ _) (Nat.le_refl _) (by simp) ?_; (case hd => rfl); (case hg => rfl); (case hr => first | (go_simp; done) | (go_simp; rfl)); (case hp => exact (Reps.one (show Kd.M (Kd.int .i64) _ _ _ t580 [.int .i64 t580] from rfl) (Reps.none _ _))); intro v582 w98 ho99 hb hg_ hnew_; clear hg_ hnew_; (first | rw [← Ny581.out] at ho99 | (simp only [Int.reduceToNat] at ho99; rw [← Ny581.out] at ho99)); replace HO0_0 := Aside0.mk (Kd.V_elder' (kv HO0_0.out) (Kd.R_base ho99) hb); have HO583 := Aside0.mk (Kd.R_lower (Kd.R_newM (M := fun k_ => (w.heap.size ≤ k_)) ho99 (below_size (tb HB)) (fun k_ h_ => h_)) (below_size (tb HB))); replace BK566 := bb BK566 hb; replace BK567 := bb BK567 hb; replace HB := bs HB hb; clear hb ho99))
       go_ret2
       exact ⟨_, er, Kd.V_mono (Kd.R_V (kr (Kd.R_mono HO583.out (fun _ hk => hk.1)))) (fun k_ hk => by first | exact ⟨(.inr (hk.1)), hk.2⟩ | exact (.inr (hk))), tb HB⟩
      ·rw [if_neg c87] at H
       have c87b0 : (a1_0 == 6) = false := beq_eq_false_iff_ne.mpr c87
       have c87b1 : (a1_0 != 6) = true := bne_iff_ne.mpr c87
       by_cases c100 : a1_0 = 7
       ·rw [if_pos c100] at H
        have c100b0 : (a1_0 == 7) = true := beq_iff_eq.mpr c100
        have c100b1 : (a1_0 != 7) = false := bne_eq_false_iff_eq.mpr c100
        clear c100
        simp only [Option.some.injEq, Prod.mk.injEq] at H
        obtain ⟨rfl, rfl⟩ := H
        go_enter Try.func110, Try.ntmps110
        go_wp2_with (first | ((with_reducible refine gate_dst (N := 2) rfl ?_); refine bx (N := 2) (cs := #[.slice A0_0 l0_0.length c0_0, .int .i64 a0_1]) (t := 65) ?_; intro gb566 hg w101 hbox hb; replace HO0_0 := Aside0.mk (Kd.V_below (Kd.V_elderB (kv HO0_0.out) gb566 (Nat.le_of_eq hg.symm)) hb); have BK566 := Aside0.mk (hbox); have GW566 := Aside0.mk (ge_ hg HB); have GE566 := Aside0.mk (ge_ hg HB); replace HB := bs HB hb; clear hb hbox hg) | ((with_reducible refine gate_dst (N := 3) rfl ?_); refine bx (N := 3) (cs := #[.int .i64 a1_0, .int .i64 a1_1, .int .i64 a1_2]) (t := 68) ?_; intro gb567 hg w102 hbox hb; replace HO0_0 := Aside0.mk (Kd.V_below (Kd.V_elderB (kv HO0_0.out) gb567 (Nat.le_of_eq hg.symm)) hb); have BK567 := Aside0.mk (hbox); have GW567 := Aside0.mk (ge_ hg HB); have GE567 := Aside0.mk (ge_ hg HB); replace HB := bs HB hb; have NB566_567 := Aside0.mk (nl_ hg BK566); have NB567_566 := Aside0.mk (ng_ hg BK566); replace BK566 := bb BK566 hb; clear hb hbox hg; have hnb103 := NB566_567.out; have hnc103 := NB567_566.out; obtain ⟨hcz104_0, hcz104_1, hfz104_0, hfz104_1⟩ := c2 BK566; obtain ⟨hcz105_0, hcz105_1, hcz105_2, hfz105_0, hfz105_1, hfz105_2⟩ := c3 BK567) | ((with_reducible refine gate_callee (f := 161) rfl ?_); refine gL 10 Try.func161 #[.agg #[.slice A0_0 l0_0.length c0_0, .int .i64 a0_1], .int .i64 a1_2] ?_; (with_reducible refine (impl_KeyOf.calls k _ _ l0_0 a0_1 a1_2 t568 _ ?side1 ?side2 A3.out).mono ?_); (case side1 => repeat (first | exact (Kd.V_reads' HO0_0.out).2.2 | (with_reducible refine Kd.C_alloc ?_ _) | (with_reducible refine Kd.C_drewN ?_ _) | (with_reducible refine Kd.C_drew ?_))); (case side2 => exact (Kd.V_reads' HO0_0.out).2.1); rintro e w106 ⟨rfl, hb⟩; refine ⟨_, rfl, ?_⟩; replace HO0_0 := Aside0.mk (Kd.V_below (kv HO0_0.out) hb); replace BK566 := bb BK566 hb; replace BK567 := bb BK567 hb; replace HB := bs HB hb; (try clear hb); (try clear hb2); (try clear hk); (try clear hi); obtain ⟨hcz107_0, hcz107_1, hcz107_2, hfz107_0, hfz107_1, hfz107_2⟩ := c3 BK567; obtain ⟨hcz108_0, hcz108_1, hfz108_0, hfz108_1⟩ := c2 BK566))
        go_ret2
        exact ⟨_, er, by (with_reducible repeat (first | apply Kd.V_alloc | apply Kd.V_drewN | apply Kd.V_drew)); exact Kd.V_mono HO0_0.out (fun _ hk => hk.1.1), tb HB⟩
       ·rw [if_neg c100] at H
        have c100b0 : (a1_0 == 7) = false := beq_eq_false_iff_ne.mpr c100
        have c100b1 : (a1_0 != 7) = true := bne_iff_ne.mpr c100
        by_cases c109 : a1_0 = 8
        ·rw [if_pos c109] at H
         have c109b0 : (a1_0 == 8) = true := beq_iff_eq.mpr c109
         have c109b1 : (a1_0 != 8) = false := bne_eq_false_iff_eq.mpr c109
         clear c109
         simp only [Option.some.injEq, Prod.mk.injEq] at H
         obtain ⟨rfl, rfl⟩ := H
         go_enter Try.func110, Try.ntmps110
         try go_wp2_with (first | ((with_reducible refine gate_dst (N := 2) rfl ?_); refine bx (N := 2) (cs := #[.slice A0_0 l0_0.length c0_0, .int .i64 a0_1]) (t := 65) ?_; intro gb566 hg w110 hbox hb; replace HO0_0 := Aside0.mk (Kd.V_below (Kd.V_elderB (kv HO0_0.out) gb566 (Nat.le_of_eq hg.symm)) hb); have BK566 := Aside0.mk (hbox); have GW566 := Aside0.mk (ge_ hg HB); have GE566 := Aside0.mk (ge_ hg HB); replace HB := bs HB hb; clear hb hbox hg) | ((with_reducible refine gate_dst (N := 3) rfl ?_); refine bx (N := 3) (cs := #[.int .i64 a1_0, .int .i64 a1_1, .int .i64 a1_2]) (t := 68) ?_; intro gb567 hg w111 hbox hb; replace HO0_0 := Aside0.mk (Kd.V_below (Kd.V_elderB (kv HO0_0.out) gb567 (Nat.le_of_eq hg.symm)) hb); have BK567 := Aside0.mk (hbox); have GW567 := Aside0.mk (ge_ hg HB); have GE567 := Aside0.mk (ge_ hg HB); replace HB := bs HB hb; have NB566_567 := Aside0.mk (nl_ hg BK566); have NB567_566 := Aside0.mk (ng_ hg BK566); replace BK566 := bb BK566 hb; clear hb hbox hg; have hnb112 := NB566_567.out; have hnc112 := NB567_566.out; obtain ⟨hcz113_0, hcz113_1, hfz113_0, hfz113_1⟩ := c2 BK566; obtain ⟨hcz114_0, hcz114_1, hcz114_2, hfz114_0, hfz114_1, hfz114_2⟩ := c3 BK567) | ((with_reducible refine gate_callee (f := 161) rfl ?_); refine gL 10 Try.func161 #[.agg #[.slice A0_0 l0_0.length c0_0, .int .i64 a0_1], .int .i64 a1_2] ?_; (with_reducible refine (impl_KeyOf.calls k _ _ l0_0 a0_1 a1_2 t568 _ ?side1 ?side2 A3.out).mono ?_); (case side1 => repeat (first | exact (Kd.V_reads' HO0_0.out).2.2 | (with_reducible refine Kd.C_alloc ?_ _) | (with_reducible refine Kd.C_drewN ?_ _) | (with_reducible refine Kd.C_drew ?_))); (case side2 => exact (Kd.V_reads' HO0_0.out).2.1); rintro e w115 ⟨rfl, hb⟩; refine ⟨_, rfl, ?_⟩; replace HO0_0 := Aside0.mk (Kd.V_below (kv HO0_0.out) hb); replace BK566 := bb BK566 hb; replace BK567 := bb BK567 hb; replace HB := bs HB hb; (try clear hb); (try clear hb2); (try clear hk); (try clear hi); obtain ⟨hcz116_0, hcz116_1, hcz116_2, hfz116_0, hfz116_1, hfz116_2⟩ := c3 BK567))
         replace HO0_0 := Aside0.mk (Kd.V_drew HO0_0.out)
         replace BK566 := bd BK566
         replace BK567 := bd BK567
         replace HB := Aside0.mk (below_drew1 HB.out)
         refine start_ (n := 5) (S := fun w' => w'.cell? ⟨gb566, 0, none⟩ = some (.slice A0_0 l0_0.length c0_0) ∧ w'.cell? ⟨gb566, 1, none⟩ = some (.int .i64 a0_1)) (ds := []) #[false, false, false, false, false] (by kernel_rfl) rfl rfl ⟨cz BK566 0, cz BK566 1⟩ (fun hHeld => ?_)
         generalize w115.drew = w117 at HO0_0 BK566 BK567 HB hHeld ⊢
         refine pu 0 89 ?_
         refine pu 3 4 ?_
         refine ta 1 90 ?_
         refine pu 2 91 ?_
         refine pu 4 5 ?_
         refine done_ (by kernel_rfl) ?_
         try go_wp2
         go_ret2
         exact ⟨_, er, Kd.V_nil _ _ _ _ _, tb HB⟩
        ·rw [if_neg c109] at H
         have c109b0 : (a1_0 == 8) = false := beq_eq_false_iff_ne.mpr c109
         have c109b1 : (a1_0 != 8) = true := bne_iff_ne.mpr c109
         by_cases c118 : a1_0 = 9
         ·rw [if_pos c118] at H
          have c118b0 : (a1_0 == 9) = true := beq_iff_eq.mpr c118
          have c118b1 : (a1_0 != 9) = false := bne_eq_false_iff_eq.mpr c118
          clear c118
          by_cases c119 : a0_1 = 0
          ·rw [if_pos c119] at H
           have c119b0 : (a0_1 == 0) = true := beq_iff_eq.mpr c119
           have c119b1 : (a0_1 != 0) = false := bne_eq_false_iff_eq.mpr c119
           clear c119
           simp only [Option.some.injEq, Prod.mk.injEq] at H
           obtain ⟨rfl, rfl⟩ := H
           go_enter Try.func110, Try.ntmps110
           go_wp2_with (first | ((with_reducible refine gate_dst (N := 2) rfl ?_); refine bx (N := 2) (cs := #[.slice A0_0 l0_0.length c0_0, .int .i64 a0_1]) (t := 65) ?_; intro gb566 hg w120 hbox hb; replace HO0_0 := Aside0.mk (Kd.V_below (Kd.V_elderB (kv HO0_0.out) gb566 (Nat.le_of_eq hg.symm)) hb); have BK566 := Aside0.mk (hbox); have GW566 := Aside0.mk (ge_ hg HB); have GE566 := Aside0.mk (ge_ hg HB); replace HB := bs HB hb; clear hb hbox hg) | ((with_reducible refine gate_dst (N := 3) rfl ?_); refine bx (N := 3) (cs := #[.int .i64 a1_0, .int .i64 a1_1, .int .i64 a1_2]) (t := 68) ?_; intro gb567 hg w121 hbox hb; replace HO0_0 := Aside0.mk (Kd.V_below (Kd.V_elderB (kv HO0_0.out) gb567 (Nat.le_of_eq hg.symm)) hb); have BK567 := Aside0.mk (hbox); have GW567 := Aside0.mk (ge_ hg HB); have GE567 := Aside0.mk (ge_ hg HB); replace HB := bs HB hb; have NB566_567 := Aside0.mk (nl_ hg BK566); have NB567_566 := Aside0.mk (ng_ hg BK566); replace BK566 := bb BK566 hb; clear hb hbox hg; have hnb122 := NB566_567.out; have hnc122 := NB567_566.out; obtain ⟨hcz123_0, hcz123_1, hfz123_0, hfz123_1⟩ := c2 BK566; obtain ⟨hcz124_0, hcz124_1, hcz124_2, hfz124_0, hfz124_1, hfz124_2⟩ := c3 BK567) | ((with_reducible refine gate_callee (f := 161) rfl ?_); refine gL 10 Try.func161 #[.agg #[.slice A0_0 l0_0.length c0_0, .int .i64 a0_1], .int .i64 a1_2] ?_; (with_reducible refine (impl_KeyOf.calls k _ _ l0_0 a0_1 a1_2 t568 _ ?side1 ?side2 A3.out).mono ?_); (case side1 => repeat (first | exact (Kd.V_reads' HO0_0.out).2.2 | (with_reducible refine Kd.C_alloc ?_ _) | (with_reducible refine Kd.C_drewN ?_ _) | (with_reducible refine Kd.C_drew ?_))); (case side2 => exact (Kd.V_reads' HO0_0.out).2.1); rintro e w125 ⟨rfl, hb⟩; refine ⟨_, rfl, ?_⟩; replace HO0_0 := Aside0.mk (Kd.V_below (kv HO0_0.out) hb); replace BK566 := bb BK566 hb; replace BK567 := bb BK567 hb; replace HB := bs HB hb; (try clear hb); (try clear hb2); (try clear hk); (try clear hi); obtain ⟨hcz126_0, hcz126_1, hcz126_2, hfz126_0, hfz126_1, hfz126_2⟩ := c3 BK567; obtain ⟨hcz127_0, hcz127_1, hfz127_0, hfz127_1⟩ := c2 BK566))
           go_ret2
           exact ⟨_, er, Kd.V_nil _ _ _ _ _, tb HB⟩
          ·rw [if_neg c119] at H
           have c119b0 : (a0_1 == 0) = false := beq_eq_false_iff_ne.mpr c119
           have c119b1 : (a0_1 != 0) = true := bne_iff_ne.mpr c119
           replace H := Option.bind_eq_some_iff.mp H
           obtain ⟨t584, A1280, H⟩ := H
           replace H : (some (([] : List Int), !t584)) = some (r1, r2) := H
           have A128 := Aside0.mk A1280
           clear A1280
           simp only [Option.some.injEq, Prod.mk.injEq] at H
           obtain ⟨rfl, rfl⟩ := H
           go_enter Try.func110, Try.ntmps110
           go_wp2_with (first | ((with_reducible refine gate_dst (N := 2) rfl ?_); refine bx (N := 2) (cs := #[.slice A0_0 l0_0.length c0_0, .int .i64 a0_1]) (t := 65) ?_; intro gb566 hg w129 hbox hb; replace HO0_0 := Aside0.mk (Kd.V_below (Kd.V_elderB (kv HO0_0.out) gb566 (Nat.le_of_eq hg.symm)) hb); have BK566 := Aside0.mk (hbox); have GW566 := Aside0.mk (ge_ hg HB); have GE566 := Aside0.mk (ge_ hg HB); replace HB := bs HB hb; clear hb hbox hg) | ((with_reducible refine gate_dst (N := 3) rfl ?_); refine bx (N := 3) (cs := #[.int .i64 a1_0, .int .i64 a1_1, .int .i64 a1_2]) (t := 68) ?_; intro gb567 hg w130 hbox hb; replace HO0_0 := Aside0.mk (Kd.V_below (Kd.V_elderB (kv HO0_0.out) gb567 (Nat.le_of_eq hg.symm)) hb); have BK567 := Aside0.mk (hbox); have GW567 := Aside0.mk (ge_ hg HB); have GE567 := Aside0.mk (ge_ hg HB); replace HB := bs HB hb; have NB566_567 := Aside0.mk (nl_ hg BK566); have NB567_566 := Aside0.mk (ng_ hg BK566); replace BK566 := bb BK566 hb; clear hb hbox hg; have hnb131 := NB566_567.out; have hnc131 := NB567_566.out; obtain ⟨hcz132_0, hcz132_1, hfz132_0, hfz132_1⟩ := c2 BK566; obtain ⟨hcz133_0, hcz133_1, hcz133_2, hfz133_0, hfz133_1, hfz133_2⟩ := c3 BK567) | ((with_reducible refine gate_callee (f := 161) rfl ?_); refine gL 10 Try.func161 #[.agg #[.slice A0_0 l0_0.length c0_0, .int .i64 a0_1], .int .i64 a1_2] ?_; (with_reducible refine (impl_KeyOf.calls k _ _ l0_0 a0_1 a1_2 t568 _ ?side1 ?side2 A3.out).mono ?_); (case side1 => repeat (first | exact (Kd.V_reads' HO0_0.out).2.2 | (with_reducible refine Kd.C_alloc ?_ _) | (with_reducible refine Kd.C_drewN ?_ _) | (with_reducible refine Kd.C_drew ?_))); (case side2 => exact (Kd.V_reads' HO0_0.out).2.1); rintro e w134 ⟨rfl, hb⟩; refine ⟨_, rfl, ?_⟩; replace HO0_0 := Aside0.mk (Kd.V_below (kv HO0_0.out) hb); replace BK566 := bb BK566 hb; replace BK567 := bb BK567 hb; replace HB := bs HB hb; (try clear hb); (try clear hb2); (try clear hk); (try clear hi); obtain ⟨hcz135_0, hcz135_1, hcz135_2, hfz135_0, hfz135_1, hfz135_2⟩ := c3 BK567; obtain ⟨hcz136_0, hcz136_1, hfz136_0, hfz136_1⟩ := c2 BK566) | (go_at_call 162; (with_reducible refine (impl_made.calls _ _ l0_0 a0_1 t584 _ ?side1 ?side2 A128.out).mono ?_); (case side1 => repeat (first | exact (Kd.V_reads' HO0_0.out).2.2 | (with_reducible refine Kd.C_alloc ?_ _) | (with_reducible refine Kd.C_drewN ?_ _) | (with_reducible refine Kd.C_drew ?_))); (case side2 => exact (Kd.V_reads' HO0_0.out).2.1); rintro e w137 ⟨rfl, hb⟩; replace HO0_0 := Aside0.mk (Kd.V_below (kv HO0_0.out) hb); replace BK566 := bb BK566 hb; replace BK567 := bb BK567 hb; replace HB := bs HB hb; (try clear hb); (try clear hb2); (try clear hk); (try clear hi)))
           go_ret2
           exact ⟨_, er, Kd.V_nil _ _ _ _ _, tb HB⟩
         ·rw [if_neg c118] at H
          have c118b0 : (a1_0 == 9) = false := beq_eq_false_iff_ne.mpr c118
          have c118b1 : (a1_0 != 9) = true := bne_iff_ne.mpr c118
          obtain ⟨y585, hy585⟩ : ∃ y_ : List Int, y_ = (([t568] : List Int)) := ⟨_, rfl⟩
          replace H : (if t568 ≥ 0 then ((impl_made.f l0_0 a0_1).bind fun t588 => (some (y585, t588))) else (some (y585, false))) = some (r1, r2) := by first | (rw [hy585]; with_reducible exact H) | (have H2_ := (Option.bind_some _ _).symm.trans H; rw [hy585]; with_reducible exact H2_) | (have H2_ := (Option.bind_some _ _).symm.trans H; with_reducible exact H2_) | with_reducible exact H | (rw [hy585]; exact H) | exact H
          have Ny585 := Aside0.mk hy585
          clear hy585
          by_cases c138 : t568 ≥ 0
          ·rw [if_pos c138] at H
           have c138b0 := decide_eq_true c138
           clear c138
           replace H := Option.bind_eq_some_iff.mp H
           obtain ⟨t588, A1390, H⟩ := H
           replace H : (some (y585, t588)) = some (r1, r2) := H
           have A139 := Aside0.mk A1390
           clear A1390
           simp only [Option.some.injEq, Prod.mk.injEq] at H
           obtain ⟨rfl, rfl⟩ := H
           go_enter Try.func110, Try.ntmps110
           go_wp2_with (first | ((with_reducible refine gate_dst (N := 2) rfl ?_); refine bx (N := 2) (cs := #[.slice A0_0 l0_0.length c0_0, .int .i64 a0_1]) (t := 65) ?_; intro gb566 hg w140 hbox hb; replace HO0_0 := Aside0.mk (Kd.V_below (Kd.V_elderB (kv HO0_0.out) gb566 (Nat.le_of_eq hg.symm)) hb); have BK566 := Aside0.mk (hbox); have GW566 := Aside0.mk (ge_ hg HB); have GE566 := Aside0.mk (ge_ hg HB); replace HB := bs HB hb; clear hb hbox hg) | ((with_reducible refine gate_dst (N := 3) rfl ?_); refine bx (N := 3) (cs := #[.int .i64 a1_0, .int .i64 a1_1, .int .i64 a1_2]) (t := 68) ?_; intro gb567 hg w141 hbox hb; replace HO0_0 := Aside0.mk (Kd.V_below (Kd.V_elderB (kv HO0_0.out) gb567 (Nat.le_of_eq hg.symm)) hb); have BK567 := Aside0.mk (hbox); have GW567 := Aside0.mk (ge_ hg HB); have GE567 := Aside0.mk (ge_ hg HB); replace HB := bs HB hb; have NB566_567 := Aside0.mk (nl_ hg BK566); have NB567_566 := Aside0.mk (ng_ hg BK566); replace BK566 := bb BK566 hb; clear hb hbox hg; have hnb142 := NB566_567.out; have hnc142 := NB567_566.out; obtain ⟨hcz143_0, hcz143_1, hfz143_0, hfz143_1⟩ := c2 BK566; obtain ⟨hcz144_0, hcz144_1, hcz144_2, hfz144_0, hfz144_1, hfz144_2⟩ := c3 BK567) | ((with_reducible refine gate_callee (f := 161) rfl ?_); refine gL 10 Try.func161 #[.agg #[.slice A0_0 l0_0.length c0_0, .int .i64 a0_1], .int .i64 a1_2] ?_; (with_reducible refine (impl_KeyOf.calls k _ _ l0_0 a0_1 a1_2 t568 _ ?side1 ?side2 A3.out).mono ?_); (case side1 => repeat (first | exact (Kd.V_reads' HO0_0.out).2.2 | (with_reducible refine Kd.C_alloc ?_ _) | (with_reducible refine Kd.C_drewN ?_ _) | (with_reducible refine Kd.C_drew ?_))); (case side2 => exact (Kd.V_reads' HO0_0.out).2.1); rintro e w145 ⟨rfl, hb⟩; refine ⟨_, rfl, ?_⟩; replace HO0_0 := Aside0.mk (Kd.V_below (kv HO0_0.out) hb); replace BK566 := bb BK566 hb; replace BK567 := bb BK567 hb; replace HB := bs HB hb; (try clear hb); (try clear hb2); (try clear hk); (try clear hi); obtain ⟨hcz146_0, hcz146_1, hcz146_2, hfz146_0, hfz146_1, hfz146_2⟩ := c3 BK567) | ((with_reducible refine gate_dst (N := 103) rfl ?_); refine Kd.R_lit (Kd.int .i64) _ 3 ?hg (N := 103) ?hd (xs := ([t568] : List Int)) (inner := [.int .i64 t568]) (ok := fun _ => True) (okp := fun _ => True) ?hr ?hp (fun _ hk => hk) trivial (Below.refl _ _) (Nat.le_refl _) (by simp) ?_; (case hd => rfl); (case hg => rfl); (case hr => first | (go_simp; done) | (go_simp; rfl)); (case hp => exact (Reps.one (show Kd.M (Kd.int .i64) _ _ _ t568 [.int .i64 t568] from rfl) (Reps.none _ _))); intro v586 w147 ho148 hb hg_ hnew_; clear hg_ hnew_; (first | rw [← Ny585.out] at ho148 | (simp only [Int.reduceToNat] at ho148; rw [← Ny585.out] at ho148)); replace HO0_0 := Aside0.mk (Kd.V_elder' (kv HO0_0.out) (Kd.R_base ho148) hb); have HO587 := Aside0.mk (Kd.R_lower (Kd.R_newM (M := fun k_ => (w.heap.size ≤ k_)) ho148 (below_size (tb HB)) (fun k_ h_ => h_)) (below_size (tb HB))); replace BK566 := bb BK566 hb; replace BK567 := bb BK567 hb; replace HB := bs HB hb; clear hb ho148; obtain ⟨hcz149_0, hcz149_1, hfz149_0, hfz149_1⟩ := c2 BK566) | (go_at_call 162; (with_reducible refine (impl_made.calls _ _ l0_0 a0_1 t588 _ ?side1 ?side2 A139.out).mono ?_); (case side1 => repeat (first | exact (Kd.V_reads' HO0_0.out).2.2 | (with_reducible refine Kd.C_alloc ?_ _) | (with_reducible refine Kd.C_drewN ?_ _) | (with_reducible refine Kd.C_drew ?_))); (case side2 => exact (Kd.V_reads' HO0_0.out).2.1); rintro e w150 ⟨rfl, hb⟩; replace HO0_0 := Aside0.mk (Kd.V_below (kv HO0_0.out) hb); replace HO587 := rb HO587 hb; replace BK566 := bb BK566 hb; replace BK567 := bb BK567 hb; replace HB := bs HB hb; (try clear hb); (try clear hb2); (try clear hk); (try clear hi)))
           go_ret2
           exact ⟨_, er, Kd.V_mono (Kd.R_V (kr (Kd.R_mono HO587.out (fun _ hk => hk.1)))) (fun k_ hk => by first | exact ⟨(.inr (hk.1)), hk.2⟩ | exact (.inr (hk))), tb HB⟩
          ·rw [if_neg c138] at H
           have c138b0 := decide_eq_false c138
           clear c138
           simp only [Option.some.injEq, Prod.mk.injEq] at H
           obtain ⟨rfl, rfl⟩ := H
           go_enter Try.func110, Try.ntmps110
           go_wp2_with (first | ((with_reducible refine gate_dst (N := 2) rfl ?_); refine bx (N := 2) (cs := #[.slice A0_0 l0_0.length c0_0, .int .i64 a0_1]) (t := 65) ?_; intro gb566 hg w151 hbox hb; replace HO0_0 := Aside0.mk (Kd.V_below (Kd.V_elderB (kv HO0_0.out) gb566 (Nat.le_of_eq hg.symm)) hb); have BK566 := Aside0.mk (hbox); have GW566 := Aside0.mk (ge_ hg HB); have GE566 := Aside0.mk (ge_ hg HB); replace HB := bs HB hb; clear hb hbox hg) | ((with_reducible refine gate_dst (N := 3) rfl ?_); refine bx (N := 3) (cs := #[.int .i64 a1_0, .int .i64 a1_1, .int .i64 a1_2]) (t := 68) ?_; intro gb567 hg w152 hbox hb; replace HO0_0 := Aside0.mk (Kd.V_below (Kd.V_elderB (kv HO0_0.out) gb567 (Nat.le_of_eq hg.symm)) hb); have BK567 := Aside0.mk (hbox); have GW567 := Aside0.mk (ge_ hg HB); have GE567 := Aside0.mk (ge_ hg HB); replace HB := bs HB hb; have NB566_567 := Aside0.mk (nl_ hg BK566); have NB567_566 := Aside0.mk (ng_ hg BK566); replace BK566 := bb BK566 hb; clear hb hbox hg; have hnb153 := NB566_567.out; have hnc153 := NB567_566.out; obtain ⟨hcz154_0, hcz154_1, hfz154_0, hfz154_1⟩ := c2 BK566; obtain ⟨hcz155_0, hcz155_1, hcz155_2, hfz155_0, hfz155_1, hfz155_2⟩ := c3 BK567) | ((with_reducible refine gate_callee (f := 161) rfl ?_); refine gL 10 Try.func161 #[.agg #[.slice A0_0 l0_0.length c0_0, .int .i64 a0_1], .int .i64 a1_2] ?_; (with_reducible refine (impl_KeyOf.calls k _ _ l0_0 a0_1 a1_2 t568 _ ?side1 ?side2 A3.out).mono ?_); (case side1 => repeat (first | exact (Kd.V_reads' HO0_0.out).2.2 | (with_reducible refine Kd.C_alloc ?_ _) | (with_reducible refine Kd.C_drewN ?_ _) | (with_reducible refine Kd.C_drew ?_))); (case side2 => exact (Kd.V_reads' HO0_0.out).2.1); rintro e w156 ⟨rfl, hb⟩; refine ⟨_, rfl, ?_⟩; replace HO0_0 := Aside0.mk (Kd.V_below (kv HO0_0.out) hb); replace BK566 := bb BK566 hb; replace BK567 := bb BK567 hb; replace HB := bs HB hb; (try clear hb); (try clear hb2); (try clear hk); (try clear hi); obtain ⟨hcz157_0, hcz157_1, hcz157_2, hfz157_0, hfz157_1, hfz157_2⟩ := c3 BK567) | ((with_reducible refine gate_dst (N := 103) rfl ?_); refine Kd.R_lit (Kd.int .i64) _ 3 ?hg (N := 103) ?hd (xs := ([t568] : List Int)) (inner := [.int .i64 t568]) (ok := fun _ => True) (okp := fun _ => True) ?hr ?hp (fun _ hk => hk) trivial (Below.refl _ _) (Nat.le_refl _) (by simp) ?_; (case hd => rfl); (case hg => rfl); (case hr => first | (go_simp; done) | (go_simp; rfl)); (case hp => exact (Reps.one (show Kd.M (Kd.int .i64) _ _ _ t568 [.int .i64 t568] from rfl) (Reps.none _ _))); intro v586 w158 ho159 hb hg_ hnew_; clear hg_ hnew_; (first | rw [← Ny585.out] at ho159 | (simp only [Int.reduceToNat] at ho159; rw [← Ny585.out] at ho159)); replace HO0_0 := Aside0.mk (Kd.V_elder' (kv HO0_0.out) (Kd.R_base ho159) hb); have HO587 := Aside0.mk (Kd.R_lower (Kd.R_newM (M := fun k_ => (w.heap.size ≤ k_)) ho159 (below_size (tb HB)) (fun k_ h_ => h_)) (below_size (tb HB))); replace BK566 := bb BK566 hb; replace BK567 := bb BK567 hb; replace HB := bs HB hb; clear hb ho159))
           go_ret2
           exact ⟨_, er, Kd.V_mono (Kd.R_V (kr (Kd.R_mono HO587.out (fun _ hk => hk.1)))) (fun k_ hk => by first | exact ⟨(.inr (hk.1)), hk.2⟩ | exact (.inr (hk))), tb HB⟩
def slices_Equal_int_int.l0 : Nat → List Int → List Int → Int → Int → Option (Bool)
 | 0, _, _, _, _ => none
 | k + 1, x0, x1, x12, x13 => if x13 < x12 then (if 0 ≤ x13 then (if x13 < (x0.length : Int) then (if x13 < (x1.length : Int) then (if (rd x0 x13) = (rd x1 x13) then (slices_Equal_int_int.l0 k x0 x1 x12 (wrap64 (x13 + 1))) else (some false)) else (none)) else (none)) else (none)) else (some true)
def slices_Equal_int_int.f (k : Nat) (l0 : List Int) (l1 : List Int) : Option (Bool) := if (l0.length : Int) = (l1.length : Int) then (slices_Equal_int_int.l0 k l0 l1 (l0.length : Int) 0) else (some false)
theorem slices_Equal_int_int.mono_l : ∀ k, (∀ y0 y1 y2 y3, LeO (slices_Equal_int_int.l0 k y0 y1 y2 y3) (slices_Equal_int_int.l0 (k + 1) y0 y1 y2 y3))
 | 0 => fun _ _ _ _ r h => by simp [slices_Equal_int_int.l0] at h
 | k + 1 => by
  have ih0 := slices_Equal_int_int.mono_l k
  ·intro y0 y1 y2 y3
   unfold slices_Equal_int_int.l0
   repeat' first
   | (with_reducible exact ih0 _ _ _ _)
   | (with_reducible exact LeO.refl _)
   | (with_reducible exact LeO.none _)
   | (with_reducible refine LeO.ite ?_ ?_)
   | (with_reducible refine LeO.bind ?_ (fun _ => ?_))
   | exact ih0 _ _ _ _
   | exact LeO.none _
   | refine LeO.ite ?_ ?_
   | refine LeO.bind ?_ (fun _ => ?_)
theorem slices_Equal_int_int.mono : ∀ a0 a1 k, LeO (slices_Equal_int_int.f k a0 a1) (slices_Equal_int_int.f (k + 1) a0 a1) := by
 intro a0 a1 k
 have ih0 := slices_Equal_int_int.mono_l k
 unfold slices_Equal_int_int.f
 repeat' first
   | (with_reducible exact ih0 _ _ _ _)
   | (with_reducible exact LeO.refl _)
   | (with_reducible exact LeO.none _)
   | (with_reducible refine LeO.ite ?_ ?_)
   | (with_reducible refine LeO.bind ?_ (fun _ => ?_))
   | exact ih0 _ _ _ _
   | exact LeO.none _
   | refine LeO.ite ?_ ?_
   | refine LeO.bind ?_ (fun _ => ?_)
set_option maxHeartbeats 8000000 in
set_option maxRecDepth 100000 in
theorem slices_Equal_int_int.calls (k : Nat) (A0 : Option Addr) (c0 : Nat) (l0 : List Int) (A1 : Option Addr) (c1 : Nat) (l1 : List Int) (r : Bool) (w : World) (hr0 : Kd.C (Kd.int .i64) w A0 l0.length l0) (hc0 : l0.length ≤ c0) (hr1 : Kd.C (Kd.int .i64) w A1 l1.length l1) (hc1 : l1.length ≤ c1) (h : slices_Equal_int_int.f k l0 l1 = some r) :
  Calls Try.prog 111 #[.slice A0 l0.length c0, .slice A1 l1.length c1] w fun e w' => e = .returned (.bool r) ∧ Drawn0 w w' := by
 have HR0 := Aside0.mk hr0
 have HC0 := Aside0.mk hc0
 clear hr0 hc0
 have HR1 := Aside0.mk hr1
 have HC1 := Aside0.mk hc1
 clear hr1 hc1
 have H : (if (l0.length : Int) = (l1.length : Int) then (slices_Equal_int_int.l0 k l0 l1 (l0.length : Int) 0) else (some false)) = some r := h
 clear h
 by_cases c3 : (l0.length : Int) = (l1.length : Int)
 ·rw [if_pos c3] at H
  have c3b0 : ((l0.length : Int) == (l1.length : Int)) = true := beq_iff_eq.mpr c3
  have c3b1 : ((l0.length : Int) != (l1.length : Int)) = false := bne_eq_false_iff_eq.mpr c3
  have c3b2 : (l0.length == l1.length) = true := by first | simpa using c3 | (simp at c3 ⊢; omega)
  clear c3
  have H' := Aside0.mk H
  clear H
  go_enter Try.func111, Try.ntmps111
  go_wp2
  repeat (go_quiet (fail); try go_wp2)
  go_loopg [13] k (fun kq v13 w' => ∃ (x13_1 : Int), v13 = .int .i64 x13_1 ∧ Aside0 (slices_Equal_int_int.l0 kq l0 l1 (l0.length : Int) x13_1 = some r) ∧ Aside0 (kq ≤ k) ∧ Drawn0 w w')
  case atStart => exact ⟨(0), (by first | rfl | (simp; done) | (simp [*]; done)), H', ⟨Nat.le_refl _⟩, by repeat (first | exact Drawn0.refl _ | apply Drawn0.step)⟩
  case round =>
   clear H'
   try clear c1
   try clear p2
   try clear c3
   try clear c3b0
   try clear c3b1
   try clear c3b2
   obtain ⟨x13_1, rfl, HA, HK1, ⟨m1, rfl⟩⟩ := hrel
   cases gk with
   | zero => exact absurd HA.out (by simp [slices_Equal_int_int.l0])
   | succ k1 =>
    have H := HA.out
    clear HA
    simp only [slices_Equal_int_int.l0] at H
    by_cases c4 : x13_1 < (l0.length : Int)
    ·rw [if_pos c4] at H
     have c4b0 := decide_eq_true c4
     clear c4
     by_cases c5 : 0 ≤ x13_1
     ·rw [if_pos c5] at H
      have c5b0 := decide_eq_true c5
      clear c5
      by_cases c6 : x13_1 < (l0.length : Int)
      ·rw [if_pos c6] at H
       have c6b0 := decide_eq_true c6
       clear c6
       by_cases c7 : x13_1 < (l1.length : Int)
       ·rw [if_pos c7] at H
        have c7b0 := decide_eq_true c7
        clear c7
        by_cases c8 : (rd l0 x13_1) = (rd l1 x13_1)
        ·rw [if_pos c8] at H
         have c8b0 : ((rd l0 x13_1) == (rd l1 x13_1)) = true := beq_iff_eq.mpr c8
         have c8b1 : ((rd l0 x13_1) != (rd l1 x13_1)) = false := bne_eq_false_iff_eq.mpr c8
         clear c8
         have H' := Aside0.mk H
         clear H
         have p589 : 0 ≤ (x13_1 : Int) := od
         have q589 : x13_1 < (l0.length : Int) := od
         obtain ⟨ad589, e589, hx589_0⟩ := Kd.at_int HR0.out x13_1 p589 q589
         cases e589
         replace p589 := eq_true p589
         replace q589 := eq_true q589
         have p590 : 0 ≤ (x13_1 : Int) := od
         have q590 : x13_1 < (l1.length : Int) := od
         obtain ⟨ad590, e590, hx590_0⟩ := Kd.at_int HR1.out x13_1 p590 q590
         cases e590
         replace p590 := eq_true p590
         replace q590 := eq_true q590
         go_wp2
         repeat (go_quiet (fail); try go_wp2)
         go_roundg k1
         case measure => have := HK1.out; omega
         case rel => exact ⟨(wrap64 (x13_1 + 1)), (by first | rfl | (simp; done) | (simp [*]; done)), H', ⟨by have := HK1.out; omega⟩, by repeat (first | exact Drawn0.refl _ | apply Drawn0.step)⟩
        ·rw [if_neg c8] at H
         have c8b0 : ((rd l0 x13_1) == (rd l1 x13_1)) = false := beq_eq_false_iff_ne.mpr c8
         have c8b1 : ((rd l0 x13_1) != (rd l1 x13_1)) = true := bne_iff_ne.mpr c8
         obtain rfl := Option.some.inj H
         have p589 : 0 ≤ (x13_1 : Int) := od
         have q589 : x13_1 < (l0.length : Int) := od
         obtain ⟨ad589, e589, hx589_0⟩ := Kd.at_int HR0.out x13_1 p589 q589
         cases e589
         replace p589 := eq_true p589
         replace q589 := eq_true q589
         have p590 : 0 ≤ (x13_1 : Int) := od
         have q590 : x13_1 < (l1.length : Int) := od
         obtain ⟨ad590, e590, hx590_0⟩ := Kd.at_int HR1.out x13_1 p590 q590
         cases e590
         replace p590 := eq_true p590
         replace q590 := eq_true q590
         go_wp2
         repeat (go_quiet (fail); try go_wp2)
         go_ret
         exact ⟨by first | rfl | (simp; done) | (simp [*]; done), by repeat (first | exact Drawn0.refl _ | apply Drawn0.step)⟩
       ·rw [if_neg c7] at H
        exact absurd H (by simp)
      ·rw [if_neg c6] at H
       exact absurd H (by simp)
     ·rw [if_neg c5] at H
      exact absurd H (by simp)
    ·rw [if_neg c4] at H
     have c4b0 := decide_eq_false c4
     clear c4
     obtain rfl := Option.some.inj H
     go_wp2
     repeat (go_quiet (fail); try go_wp2)
     go_ret
     exact ⟨by first | rfl | (simp; done) | (simp [*]; done), by repeat (first | exact Drawn0.refl _ | apply Drawn0.step)⟩
 ·rw [if_neg c3] at H
  have c3b0 : ((l0.length : Int) == (l1.length : Int)) = false := beq_eq_false_iff_ne.mpr c3
  have c3b1 : ((l0.length : Int) != (l1.length : Int)) = true := bne_iff_ne.mpr c3
  have c3b2 : (l0.length == l1.length) = false := by first | simpa using c3 | (simp at c3 ⊢; omega)
  obtain rfl := Option.some.inj H
  go_enter Try.func111, Try.ntmps111
  go_wp2
  repeat (go_quiet (fail); try go_wp2)
  go_ret
  exact ⟨by first | rfl | (simp; done) | (simp [*]; done), by repeat (first | exact Drawn0.refl _ | apply Drawn0.step)⟩
def impl_Allowed.j0 : Nat → Bool → List Int → Int → Int → Int → Int → Int → List Int → Option (Bool)
 | 0, _, _, _, _, _, _, _, _ => none
 | k + 1, x16, x592000, x592001, x593000, x593001, x593002, x594000, x594001 => if x16 = true then (some false) else (if x594000 = 0 then ((impl_success.f k x592000 x592001 x593000 x593001 x593002).bind fun bt596 => (if bt596.2 = true then ((slices_Equal_int_int.f k bt596.1 x594001).bind fun t600 => (some t600)) else (some false))) else (if (x594001.length : Int) = 0 then ((impl_refusal.f k x592000 x592001 x593000 x593001 x593002 x594000).bind fun t601 => (some t601)) else (some false)))
def impl_Allowed.f (k : Nat) (l0_0 : List Int) (a0_1 : Int) (a1_0 : Int) (a1_1 : Int) (a1_2 : Int) (a2_0 : Int) (l2_1 : List Int) : Option (Bool) := (impl_RowsOk.f k l0_0 a0_1).bind fun t594 => (if t594 = true then ((impl_OpOk.f k a1_0 a1_1 a1_2).bind fun t595 => (impl_Allowed.j0 k (!t595) l0_0 a0_1 a1_0 a1_1 a1_2 a2_0 l2_1)) else (impl_Allowed.j0 k true l0_0 a0_1 a1_0 a1_1 a1_2 a2_0 l2_1))
theorem impl_Allowed.mono_l : ∀ k, (∀ y0 y1 y2 y3 y4 y5 y6 y7, LeO (impl_Allowed.j0 k y0 y1 y2 y3 y4 y5 y6 y7) (impl_Allowed.j0 (k + 1) y0 y1 y2 y3 y4 y5 y6 y7))
 | 0 => fun _ _ _ _ _ _ _ _ r h => by simp [impl_Allowed.j0] at h
 | k + 1 => by
  have ih0 := impl_Allowed.mono_l k
  ·intro y0 y1 y2 y3 y4 y5 y6 y7
   unfold impl_Allowed.j0
   repeat' first
   | (with_reducible exact ih0 _ _ _ _ _ _ _ _)
   | (with_reducible exact impl_OpOk.mono _ _ _ _)
   | (with_reducible exact impl_RowsOk.mono _ _ _)
   | (with_reducible exact impl_refusal.mono _ _ _ _ _ _ _)
   | (with_reducible exact impl_success.mono _ _ _ _ _ _)
   | (with_reducible exact slices_Equal_int_int.mono _ _ _)
   | (with_reducible exact LeO.refl _)
   | (with_reducible exact LeO.none _)
   | (with_reducible refine LeO.ite ?_ ?_)
   | (with_reducible refine LeO.bind ?_ (fun _ => ?_))
   | exact ih0 _ _ _ _ _ _ _ _
   | exact impl_OpOk.mono _ _ _ _
   | exact impl_RowsOk.mono _ _ _
   | exact impl_refusal.mono _ _ _ _ _ _ _
   | exact impl_success.mono _ _ _ _ _ _
   | exact slices_Equal_int_int.mono _ _ _
   | exact LeO.none _
   | refine LeO.ite ?_ ?_
   | refine LeO.bind ?_ (fun _ => ?_)
theorem impl_Allowed.mono : ∀ a0 a1 a2 a3 a4 a5 a6 k, LeO (impl_Allowed.f k a0 a1 a2 a3 a4 a5 a6) (impl_Allowed.f (k + 1) a0 a1 a2 a3 a4 a5 a6) := by
 intro a0 a1 a2 a3 a4 a5 a6 k
 have ih0 := impl_Allowed.mono_l k
 unfold impl_Allowed.f
 repeat' first
   | (with_reducible exact ih0 _ _ _ _ _ _ _ _)
   | (with_reducible exact impl_OpOk.mono _ _ _ _)
   | (with_reducible exact impl_RowsOk.mono _ _ _)
   | (with_reducible exact impl_refusal.mono _ _ _ _ _ _ _)
   | (with_reducible exact impl_success.mono _ _ _ _ _ _)
   | (with_reducible exact slices_Equal_int_int.mono _ _ _)
   | (with_reducible exact LeO.refl _)
   | (with_reducible exact LeO.none _)
   | (with_reducible refine LeO.ite ?_ ?_)
   | (with_reducible refine LeO.bind ?_ (fun _ => ?_))
   | exact ih0 _ _ _ _ _ _ _ _
   | exact impl_OpOk.mono _ _ _ _
   | exact impl_RowsOk.mono _ _ _
   | exact impl_refusal.mono _ _ _ _ _ _ _
   | exact impl_success.mono _ _ _ _ _ _
   | exact slices_Equal_int_int.mono _ _ _
   | exact LeO.none _
   | refine LeO.ite ?_ ?_
   | refine LeO.bind ?_ (fun _ => ?_)
set_option maxHeartbeats 8000000 in
set_option maxRecDepth 100000 in
theorem impl_Allowed.calls (k : Nat) (A0_0 : Option Addr) (c0_0 : Nat) (l0_0 : List Int) (a0_1 : Int) (a1_0 : Int) (a1_1 : Int) (a1_2 : Int) (a2_0 : Int) (A2_1 : Option Addr) (c2_1 : Nat) (l2_1 : List Int) (r : Bool) (w : World) (hr0_0 : Kd.C (Kd.int .i64) w A0_0 l0_0.length l0_0) (hc0_0 : l0_0.length ≤ c0_0) (hr2_1 : Kd.C (Kd.int .i64) w A2_1 l2_1.length l2_1) (hc2_1 : l2_1.length ≤ c2_1) (h : impl_Allowed.f k l0_0 a0_1 a1_0 a1_1 a1_2 a2_0 l2_1 = some r) :
  Calls Try.prog 46 #[.agg #[.slice A0_0 l0_0.length c0_0, .int .i64 a0_1], .agg #[.int .i64 a1_0, .int .i64 a1_1, .int .i64 a1_2], .agg #[.int .i64 a2_0, .slice A2_1 l2_1.length c2_1]] w fun e w' => e = .returned (.bool r) ∧ Below w.heap.size w w' := by
 have hu65 := Try.underlying65
 have hu68 := Try.underlying68
 have hu70 := Try.underlying70
 have HR0_0 := Aside0.mk hr0_0
 have HC0_0 := Aside0.mk hc0_0
 clear hr0_0 hc0_0
 have HR2_1 := Aside0.mk hr2_1
 have HC2_1 := Aside0.mk hc2_1
 clear hr2_1 hc2_1
 have HB := Aside0.mk (Below.refl w.heap.size w)
 have H : ((impl_RowsOk.f k l0_0 a0_1).bind fun t594 => (if t594 = true then ((impl_OpOk.f k a1_0 a1_1 a1_2).bind fun t595 => (impl_Allowed.j0 k (!t595) l0_0 a0_1 a1_0 a1_1 a1_2 a2_0 l2_1)) else (impl_Allowed.j0 k true l0_0 a0_1 a1_0 a1_1 a1_2 a2_0 l2_1))) = some r := h
 clear h
 have HC4 := Aside0.mk H
 clear H
 go_enter Try.func46, Try.ntmps46
 go_upto_region 1 with (first | ((with_reducible refine gate_dst (N := 3) rfl ?_); refine bx (N := 3) (cs := #[.slice A0_0 l0_0.length c0_0, .int .i64 a0_1]) (t := 65) ?_; intro gb591 hg w5 hbox hb; have BK591 := Aside0.mk (hbox); have GW591 := Aside0.mk (ge_ hg HB); have GE591 := Aside0.mk (ge_ hg HB); replace HB := bs HB hb; clear hb hbox hg) | ((with_reducible refine gate_dst (N := 4) rfl ?_); refine bx (N := 4) (cs := #[.int .i64 a1_0, .int .i64 a1_1, .int .i64 a1_2]) (t := 68) ?_; intro gb592 hg w6 hbox hb; have BK592 := Aside0.mk (hbox); have GW592 := Aside0.mk (ge_ hg HB); have GE592 := Aside0.mk (ge_ hg HB); replace HB := bs HB hb; have NB591_592 := Aside0.mk (nl_ hg BK591); have NB592_591 := Aside0.mk (ng_ hg BK591); replace BK591 := bb BK591 hb; clear hb hbox hg) | ((with_reducible refine gate_dst (N := 5) rfl ?_); refine bx (N := 5) (cs := #[.int .i64 a2_0, .slice A2_1 l2_1.length c2_1]) (t := 70) ?_; intro gb593 hg w7 hbox hb; have BK593 := Aside0.mk (hbox); have GW593 := Aside0.mk (ge_ hg HB); have GE593 := Aside0.mk (ge_ hg HB); replace HB := bs HB hb; have NB591_593 := Aside0.mk (nl_ hg BK591); have NB593_591 := Aside0.mk (ng_ hg BK591); replace BK591 := bb BK591 hb; have NB592_593 := Aside0.mk (nl_ hg BK592); have NB593_592 := Aside0.mk (ng_ hg BK592); replace BK592 := bb BK592 hb; clear hb hbox hg))
 (try simp only [Act.put, sA, sB, sC])
 go_cut [16] (fun v16 wc => ∃ (kq : Nat) (x16_3 : Bool), v16 = .bool x16_3 ∧ Aside0 (impl_Allowed.j0 kq x16_3 l0_0 a0_1 a1_0 a1_1 a1_2 a2_0 l2_1 = some r) ∧ Aside0 (kq ≤ k) ∧ Aside0 (wc.heap[gb591]? = some (.cells #[(.slice A0_0 l0_0.length c0_0), .int .i64 a0_1] 65 (0, 0))) ∧ Aside0 (wc.heap[gb592]? = some (.cells #[.int .i64 a1_0, .int .i64 a1_1, .int .i64 a1_2] 68 (0, 0))) ∧ Aside0 (wc.heap[gb593]? = some (.cells #[.int .i64 a2_0, (.slice A2_1 l2_1.length c2_1)] 70 (0, 0))) ∧ Aside0 (Below w.heap.size w wc))
 case first =>
  have H := HC4.out
  clear HC4
  replace H := Option.bind_eq_some_iff.mp H
  obtain ⟨t594, A80, H⟩ := H
  replace H : (if t594 = true then ((impl_OpOk.f k a1_0 a1_1 a1_2).bind fun t595 => (impl_Allowed.j0 k (!t595) l0_0 a0_1 a1_0 a1_1 a1_2 a2_0 l2_1)) else (impl_Allowed.j0 k true l0_0 a0_1 a1_0 a1_1 a1_2 a2_0 l2_1)) = some r := H
  have A8 := Aside0.mk A80
  clear A80
  by_cases c9 : t594 = true
  ·subst c9
   have H1 : ((impl_OpOk.f k a1_0 a1_1 a1_2).bind fun t595 => (impl_Allowed.j0 k (!t595) l0_0 a0_1 a1_0 a1_1 a1_2 a2_0 l2_1)) = some r := by rw [if_pos rfl] at H; exact H
   clear H
   have H := H1
   clear H1
   replace H := Option.bind_eq_some_iff.mp H
   obtain ⟨t595, A100, H⟩ := H
   replace H : (impl_Allowed.j0 k (!t595) l0_0 a0_1 a1_0 a1_1 a1_2 a2_0 l2_1) = some r := H
   have A10 := Aside0.mk A100
   clear A100
   have H' := Aside0.mk H
   clear H
   have hnb11 := NB591_592.out
   have hnc11 := NB592_591.out
   have hnb12 := NB591_593.out
   have hnc12 := NB593_591.out
   obtain ⟨hcz13_0, hcz13_1, hfz13_0, hfz13_1⟩ := c2 BK591
   go_wp2_with (first | ((with_reducible refine gate_callee (f := 55) rfl ?_); refine gL 10 Try.func55 #[.agg #[.slice A0_0 l0_0.length c0_0, .int .i64 a0_1]] ?_; (with_reducible refine (impl_RowsOk.calls k _ _ l0_0 a0_1 true _ ?side1 ?side2 A8.out).mono ?_); (case side1 => exact kc HR0_0 HB); (case side2 => exact HC0_0.out); rintro e w14 ⟨rfl, hb⟩; refine ⟨_, rfl, ?_⟩; replace BK591 := bb BK591 hb; replace BK592 := bb BK592 hb; replace BK593 := bb BK593 hb; replace HB := bs HB hb; (try clear hb); (try clear hb2); (try clear hk); (try clear hi); have hnb15 := NB592_593.out; have hnc15 := NB593_592.out; obtain ⟨hcz16_0, hcz16_1, hcz16_2, hfz16_0, hfz16_1, hfz16_2⟩ := c3 BK592) | (go_at_call 53; (with_reducible refine (impl_OpOk.calls k a1_0 a1_1 a1_2 t595 _ A10.out).mono ?_); rintro e w17 ⟨rfl, hb⟩; replace BK591 := bb BK591 hb; replace BK592 := bb BK592 hb; replace BK593 := bb BK593 hb; replace HB := bs HB hb; (try clear hb); (try clear hb2); (try clear hk); (try clear hi)))
   go_meet
   case rel => exact ⟨_, (!t595), (by first | rfl | (simp; done) | (simp [*]; done)), H', ⟨by first | omega | exact Nat.le_refl _⟩, ⟨by (with_reducible repeat (first | refine blk_drewN ?_ _ | refine blk_drew ?_ | refine blk_alloc ?_ _)); exact BK591.out⟩, ⟨by (with_reducible repeat (first | refine blk_drewN ?_ _ | refine blk_drew ?_ | refine blk_alloc ?_ _)); exact BK592.out⟩, ⟨by (with_reducible repeat (first | refine blk_drewN ?_ _ | refine blk_drew ?_ | refine blk_alloc ?_ _)); exact BK593.out⟩, ⟨tb HB⟩⟩
  ·replace c9 := Bool.eq_false_iff.mpr c9
   subst c9
   have H1 : (impl_Allowed.j0 k true l0_0 a0_1 a1_0 a1_1 a1_2 a2_0 l2_1) = some r := by rw [if_neg (show ¬ (false = true) by decide)] at H; exact H
   clear H
   have H := H1
   clear H1
   have H' := Aside0.mk H
   clear H
   have hnb18 := NB591_592.out
   have hnc18 := NB592_591.out
   have hnb19 := NB591_593.out
   have hnc19 := NB593_591.out
   obtain ⟨hcz20_0, hcz20_1, hfz20_0, hfz20_1⟩ := c2 BK591
   go_wp2_with (first | ((with_reducible refine gate_callee (f := 55) rfl ?_); refine gL 10 Try.func55 #[.agg #[.slice A0_0 l0_0.length c0_0, .int .i64 a0_1]] ?_; (with_reducible refine (impl_RowsOk.calls k _ _ l0_0 a0_1 false _ ?side1 ?side2 A8.out).mono ?_); (case side1 => exact kc HR0_0 HB); (case side2 => exact HC0_0.out); rintro e w21 ⟨rfl, hb⟩; refine ⟨_, rfl, ?_⟩; replace BK591 := bb BK591 hb; replace BK592 := bb BK592 hb; replace BK593 := bb BK593 hb; replace HB := bs HB hb; (try clear hb); (try clear hb2); (try clear hk); (try clear hi)))
   go_meet
   case rel => exact ⟨_, (true), (by first | rfl | (simp; done) | (simp [*]; done)), H', ⟨by first | omega | exact Nat.le_refl _⟩, ⟨by (with_reducible repeat (first | refine blk_drewN ?_ _ | refine blk_drew ?_ | refine blk_alloc ?_ _)); exact BK591.out⟩, ⟨by (with_reducible repeat (first | refine blk_drewN ?_ _ | refine blk_drew ?_ | refine blk_alloc ?_ _)); exact BK592.out⟩, ⟨by (with_reducible repeat (first | refine blk_drewN ?_ _ | refine blk_drew ?_ | refine blk_alloc ?_ _)); exact BK593.out⟩, ⟨tb HB⟩⟩
 case rest =>
  clear HC4
  try clear c1
  try clear c2
  try clear p2
  try clear c4
  try clear c5
  try clear c9
  try clear c11
  try clear c12
  try clear c15
  try clear c18
  try clear c19
  try clear hcz13_0
  try clear hcz13_1
  try clear hcz16_0
  try clear hcz16_1
  try clear hcz16_2
  try clear hcz20_0
  try clear hcz20_1
  try clear hfz13_0
  try clear hfz13_1
  try clear hfz16_0
  try clear hfz16_1
  try clear hfz16_2
  try clear hfz20_0
  try clear hfz20_1
  obtain ⟨kq, x16_3, rfl, HA, HJ3, BK591, BK592, BK593, HB⟩ := hcut
  cases kq with
  | zero => exact absurd HA.out (by simp [impl_Allowed.j0])
  | succ kj3 =>
   have H := HA.out
   clear HA
   simp only [impl_Allowed.j0] at H
   by_cases c22 : x16_3 = true
   ·subst c22
    have H1 : (some false) = some r := by rw [if_pos rfl] at H; exact H
    clear H
    have H := H1
    clear H1
    obtain rfl := Option.some.inj H
    go_wp2
    go_ret
    exact ⟨er, tb HB⟩
   ·replace c22 := Bool.eq_false_iff.mpr c22
    subst c22
    have H1 : (if a2_0 = 0 then ((impl_success.f kj3 l0_0 a0_1 a1_0 a1_1 a1_2).bind fun bt596 => (if bt596.2 = true then ((slices_Equal_int_int.f kj3 bt596.1 l2_1).bind fun t600 => (some t600)) else (some false))) else (if (l2_1.length : Int) = 0 then ((impl_refusal.f kj3 l0_0 a0_1 a1_0 a1_1 a1_2 a2_0).bind fun t601 => (some t601)) else (some false))) = some r := by rw [if_neg (show ¬ (false = true) by decide)] at H; exact H
    clear H
    have H := H1
    clear H1
    by_cases c23 : a2_0 = 0
    ·rw [if_pos c23] at H
     have c23b0 : (a2_0 == 0) = true := beq_iff_eq.mpr c23
     have c23b1 : (a2_0 != 0) = false := bne_eq_false_iff_eq.mpr c23
     clear c23
     replace H := Option.bind_eq_some_iff.mp H
     obtain ⟨⟨t596, t599⟩, A240, H⟩ := H
     replace H : (if t599 = true then ((slices_Equal_int_int.f kj3 t596 l2_1).bind fun t600 => (some t600)) else (some false)) = some r := H
     have A24 := Aside0.mk A240
     clear A240
     by_cases c25 : t599 = true
     ·subst c25
      have H1 : ((slices_Equal_int_int.f kj3 t596 l2_1).bind fun t600 => (some t600)) = some r := by rw [if_pos rfl] at H; exact H
      clear H
      have H := H1
      clear H1
      replace H := Option.bind_eq_some_iff.mp H
      obtain ⟨t600, A260, H⟩ := H
      replace H : (some t600) = some r := H
      have A26 := Aside0.mk A260
      clear A260
      obtain rfl := Option.some.inj H
      have hnb27 := NB593_591.out
      have hnc27 := NB591_593.out
      have hnb28 := NB593_592.out
      have hnc28 := NB592_593.out
      obtain ⟨hcz29_0, hcz29_1, hfz29_0, hfz29_1⟩ := c2 BK593
      have hnb30 := NB591_592.out
      have hnc30 := NB592_591.out
      obtain ⟨hcz31_0, hcz31_1, hfz31_0, hfz31_1⟩ := c2 BK591
      obtain ⟨hcz32_0, hcz32_1, hcz32_2, hfz32_0, hfz32_1, hfz32_2⟩ := c3 BK592
      go_wp2_with (first | ((with_reducible refine gate_callee (f := 110) rfl ?_); refine gL 34 Try.func110 #[.agg #[.slice A0_0 l0_0.length c0_0, .int .i64 a0_1], .agg #[.int .i64 a1_0, .int .i64 a1_1, .int .i64 a1_2]] ?_; (with_reducible refine (impl_success.calls kj3 (fun k_ => k_ < w.heap.size) _ _ l0_0 a0_1 a1_0 a1_1 a1_2 t596 true _ ?side1 A24.out).mono ?_); (case side1 => exact Kd.V_mk HC0_0.out (Kd.F_below (Kd.C_F (Kd.heap_int .i64) HR0_0.out) (tb HB))); rintro e w33 ⟨v597, rfl, ho0, hb⟩; refine ⟨_, rfl, ?_⟩; have HO598 := Aside0.mk (Kd.V_lower (Kd.V_mono (ok' := fun k_ => k_ ≠ gb591 ∧ k_ ≠ gb592 ∧ k_ ≠ gb593) ho0 (fun k_ hk_ => ⟨Or.elim hk_ (fun hs_ => fun e_ => Nat.not_le.2 hs_ (by rw [e_]; exact GW591.out)) (fun hn_ => (Kd.freshB (g := gb591) (o := .cells #[.slice A0_0 l0_0.length c0_0, .int .i64 a0_1] 65 (0, 0)) (bk BK591) k_ hn_)), Or.elim hk_ (fun hs_ => fun e_ => Nat.not_le.2 hs_ (by rw [e_]; exact GW592.out)) (fun hn_ => (Kd.freshB (g := gb592) (o := .cells #[.int .i64 a1_0, .int .i64 a1_1, .int .i64 a1_2] 68 (0, 0)) (bk BK592) k_ hn_)), Or.elim hk_ (fun hs_ => fun e_ => Nat.not_le.2 hs_ (by rw [e_]; exact GW593.out)) (fun hn_ => (Kd.freshB (g := gb593) (o := .cells #[.int .i64 a2_0, .slice A2_1 l2_1.length c2_1] 70 (0, 0)) (bk BK593) k_ hn_))⟩)) (below_size (tb HB))); replace BK591 := bb BK591 hb; replace BK592 := bb BK592 hb; replace BK593 := bb BK593 hb; replace HB := bs HB hb; (try clear hb); (try clear hb2); (try clear hk); (try clear hi); (try clear ho0); obtain ⟨hcz34_0, hcz34_1, hfz34_0, hfz34_1⟩ := c2 BK593; obtain ⟨Ao35, co35, eo35⟩ := Kd.V_slice HO598.out; subst eo35) | (go_at_call 111; (with_reducible refine (slices_Equal_int_int.calls kj3 _ _ t596 _ _ l2_1 t600 _ ?side1 ?side2 ?side3 ?side4 A26.out).mono ?_); (case side1 => repeat (first | exact (Kd.V_reads' HO598.out).2.2 | (with_reducible refine Kd.C_alloc ?_ _) | (with_reducible refine Kd.C_drewN ?_ _) | (with_reducible refine Kd.C_drew ?_))); (case side2 => exact (Kd.V_reads' HO598.out).2.1); (case side3 => exact kc HR2_1 HB); (case side4 => exact HC2_1.out); rintro e w' ⟨rfl, ⟨nd, rfl⟩⟩))
      go_ret
      exact ⟨er, tb HB⟩
     ·replace c25 := Bool.eq_false_iff.mpr c25
      subst c25
      have H1 : (some false) = some r := by rw [if_neg (show ¬ (false = true) by decide)] at H; exact H
      clear H
      have H := H1
      clear H1
      obtain rfl := Option.some.inj H
      have hnb36 := NB593_591.out
      have hnc36 := NB591_593.out
      have hnb37 := NB593_592.out
      have hnc37 := NB592_593.out
      obtain ⟨hcz38_0, hcz38_1, hfz38_0, hfz38_1⟩ := c2 BK593
      have hnb39 := NB591_592.out
      have hnc39 := NB592_591.out
      obtain ⟨hcz40_0, hcz40_1, hfz40_0, hfz40_1⟩ := c2 BK591
      obtain ⟨hcz41_0, hcz41_1, hcz41_2, hfz41_0, hfz41_1, hfz41_2⟩ := c3 BK592
      go_wp2_with (first | ((with_reducible refine gate_callee (f := 110) rfl ?_); refine gL 34 Try.func110 #[.agg #[.slice A0_0 l0_0.length c0_0, .int .i64 a0_1], .agg #[.int .i64 a1_0, .int .i64 a1_1, .int .i64 a1_2]] ?_; (with_reducible refine (impl_success.calls kj3 (fun k_ => k_ < w.heap.size) _ _ l0_0 a0_1 a1_0 a1_1 a1_2 t596 false _ ?side1 A24.out).mono ?_); (case side1 => exact Kd.V_mk HC0_0.out (Kd.F_below (Kd.C_F (Kd.heap_int .i64) HR0_0.out) (tb HB))); rintro e w42 ⟨v597, rfl, ho0, hb⟩; refine ⟨_, rfl, ?_⟩; have HO598 := Aside0.mk (Kd.V_lower (Kd.V_mono (ok' := fun k_ => k_ ≠ gb591 ∧ k_ ≠ gb592 ∧ k_ ≠ gb593) ho0 (fun k_ hk_ => ⟨Or.elim hk_ (fun hs_ => fun e_ => Nat.not_le.2 hs_ (by rw [e_]; exact GW591.out)) (fun hn_ => (Kd.freshB (g := gb591) (o := .cells #[.slice A0_0 l0_0.length c0_0, .int .i64 a0_1] 65 (0, 0)) (bk BK591) k_ hn_)), Or.elim hk_ (fun hs_ => fun e_ => Nat.not_le.2 hs_ (by rw [e_]; exact GW592.out)) (fun hn_ => (Kd.freshB (g := gb592) (o := .cells #[.int .i64 a1_0, .int .i64 a1_1, .int .i64 a1_2] 68 (0, 0)) (bk BK592) k_ hn_)), Or.elim hk_ (fun hs_ => fun e_ => Nat.not_le.2 hs_ (by rw [e_]; exact GW593.out)) (fun hn_ => (Kd.freshB (g := gb593) (o := .cells #[.int .i64 a2_0, .slice A2_1 l2_1.length c2_1] 70 (0, 0)) (bk BK593) k_ hn_))⟩)) (below_size (tb HB))); replace BK591 := bb BK591 hb; replace BK592 := bb BK592 hb; replace BK593 := bb BK593 hb; replace HB := bs HB hb; (try clear hb); (try clear hb2); (try clear hk); (try clear hi); (try clear ho0)))
      go_ret
      exact ⟨er, tb HB⟩
    ·rw [if_neg c23] at H
     have c23b0 : (a2_0 == 0) = false := beq_eq_false_iff_ne.mpr c23
     have c23b1 : (a2_0 != 0) = true := bne_iff_ne.mpr c23
     by_cases c43 : (l2_1.length : Int) = 0
     ·rw [if_pos c43] at H
      have c43b0 : ((l2_1.length : Int) == 0) = true := beq_iff_eq.mpr c43
      have c43b1 : ((l2_1.length : Int) != 0) = false := bne_eq_false_iff_eq.mpr c43
      clear c43
      replace H := Option.bind_eq_some_iff.mp H
      obtain ⟨t601, A440, H⟩ := H
      replace H : (some t601) = some r := H
      have A44 := Aside0.mk A440
      clear A440
      obtain rfl := Option.some.inj H
      have hnb45 := NB593_591.out
      have hnc45 := NB591_593.out
      have hnb46 := NB593_592.out
      have hnc46 := NB592_593.out
      obtain ⟨hcz47_0, hcz47_1, hfz47_0, hfz47_1⟩ := c2 BK593
      have hnb48 := NB591_592.out
      have hnc48 := NB592_591.out
      obtain ⟨hcz49_0, hcz49_1, hfz49_0, hfz49_1⟩ := c2 BK591
      obtain ⟨hcz50_0, hcz50_1, hcz50_2, hfz50_0, hfz50_1, hfz50_2⟩ := c3 BK592
      go_wp2_with (first | (go_at_call 109; (with_reducible refine (impl_refusal.calls kj3 _ _ l0_0 a0_1 a1_0 a1_1 a1_2 a2_0 t601 _ ?side1 ?side2 A44.out).mono ?_); (case side1 => exact kc HR0_0 HB); (case side2 => exact HC0_0.out); rintro e w51 ⟨rfl, hb⟩; replace BK591 := bb BK591 hb; replace BK592 := bb BK592 hb; replace BK593 := bb BK593 hb; replace HB := bs HB hb; (try clear hb); (try clear hb2); (try clear hk); (try clear hi)))
      go_ret
      exact ⟨er, tb HB⟩
     ·rw [if_neg c43] at H
      have c43b0 : ((l2_1.length : Int) == 0) = false := beq_eq_false_iff_ne.mpr c43
      have c43b1 : ((l2_1.length : Int) != 0) = true := bne_iff_ne.mpr c43
      have c43b2 : ¬ (l2_1 = []) := fun h_ => c43 (by rw [h_]; rfl)
      obtain rfl := Option.some.inj H
      have hnb52 := NB593_591.out
      have hnc52 := NB591_593.out
      have hnb53 := NB593_592.out
      have hnc53 := NB592_593.out
      obtain ⟨hcz54_0, hcz54_1, hfz54_0, hfz54_1⟩ := c2 BK593
      go_wp2
      go_ret
      exact ⟨er, tb HB⟩
end Go.Proofs.Ytopikhjcbcpiaaa.Q
section
namespace Go.Proofs.Ytopikhjcbcpiaaa.Q
open Go.RowKit Go.Proofs.YtopikhjcbcpiaaaW.PrintWords Go.Proofs.YtopikhjcbcpiaaaW.PrintLast Go.Proofs.YtopikhjcbcpiaaaW.PrintMore
def slices_Clone_int_int.f (l0 : List Int) : Option (List Int) := if l0.length * 8 ≤ 140737488355328 then some l0 else none
set_option maxHeartbeats 2000000 in
set_option maxRecDepth 100000 in
theorem slices_Clone_int_int.calls (A0 : Option Addr) (c0 : Nat) (l0 : List Int) (r : List Int) (w : World) (hr0 : Kd.C (Kd.int .i64) w A0 l0.length l0) (hc0 : l0.length ≤ c0) (h : slices_Clone_int_int.f l0 = some r) :
    Calls Try.prog 158 #[.slice A0 l0.length c0] w fun e w' => ∃ v0_ : Value, e = .returned (v0_) ∧ Kd.R (Kd.int .i64) 3 w' w.heap.size (fun _ => True) v0_ r ∧ Below w.heap.size w w' := by
  have q22 : ∀ (w : World) (a : Option Addr) (n c n' c' : Nat), (binOp .eql 22 (.slice a n c) (.slice none n' c')).run Try.prog w = .ok (.bool a.isNone) w := fun w a n c n' c' => Lib.run_eql_slice_nil w _ _ a n c n' c' Try.underlying22
  unfold slices_Clone_int_int.f at h
  have hlim : l0.length * 8 ≤ 140737488355328 := by
    by_cases hlim : l0.length * 8 ≤ 140737488355328
    · exact hlim
    · rw [if_neg hlim] at h; exact absurd h (by simp)
  rw [if_pos hlim] at h
  obtain rfl := Option.some.inj h
  clear h
  have HLIM := Aside0.mk hlim
  clear hlim
  cases A0 with
  | none =>
    have h0 : l0 = [] := by
      rcases l0 with _ | ⟨x, xs⟩
      · rfl
      · obtain ⟨ad, _, he, _⟩ := Kd.C_get hr0 x 0 (by omega) (by first | (simp; done) | (simp; omega))
        cases he
    clear hr0 HLIM hc0
    subst h0
    go_enter Try.func158, Try.ntmps158
    go_wp2
    go_ret
    exact ⟨_, rfl, Kd.R_nil _ _ _ _ _, Below.refl _ _⟩
  | some ad =>
    have HR := Aside0.mk hr0
    clear hr0 hc0
    go_enter Try.func158, Try.ntmps158
    go_wp2_with (first | ((with_reducible refine gate_dst (N := 5) rfl ?_); refine Kd.R_lit (Kd.int .i64) w.heap.size 3 ?hg (N := 5) ?hd (xs := []) (inner := []) (ok := fun _ => True) (okp := fun _ => True) ?hr ?hp (fun _ hk => hk) trivial (Below.refl _ _) (Nat.le_refl _) (by simp) ?_; (case hd => rfl); (case hg => rfl); (case hr => first | (go_simp; done) | (go_simp; rfl)); (case hp => exact (Reps.none _ _)); intro v6 w6 ho6 hb6 hg_ hnew_; clear hg_ hnew_; have HO := Aside0.mk ho6; have HB := Aside0.mk hb6; clear ho6 hb6) | ((with_reducible refine gate_builtin (b := .append) (xs := #[.tmp 5, .tmp 6]) rfl ?_); at_builtin; refine Kd.R_append_rows (Kd.int .i64) (w0 := w) w.heap.size rfl (.tmp 5) (.tmp 6) 22 3 (.int .i64 0) 8 rfl Try.underlying22 (by kernel_rfl) rfl (by decide) (by omega) v6 [] l0 _ _ _ (fun _ => True) (fun _ => False) rfl rfl HO.out (Kd.C_below HR.out HB.out) ?hKM (fun _ h => h.elim) (fun _ _ => trivial) HB.out HB.out.size (by have := HLIM.out; simp; omega) ?_; (case hKM => intro x cs hk; exact hk); intro v7 w7 ho7 hb7 hg7 hat7; have HO7 := Aside0.mk ho7; have HB7 := Aside0.mk hb7; clear ho7 hb7 hg7 hat7))
    go_ret
    exact ⟨_, rfl, by simpa using HO7.out, HB7.out⟩
def impl_Entry.f (l0 : List S166) : Option (List S166) := if l0.length * 24 ≤ 140737488355328 then some l0 else none
set_option maxHeartbeats 2000000 in
set_option maxRecDepth 100000 in
theorem impl_Entry.calls (A0 : Option Addr) (c0 : Nat) (l0 : List S166) (r : List S166) (w : World) (hr0 : Kd.C k166 w A0 l0.length l0) (hc0 : l0.length ≤ c0) (h : impl_Entry.f l0 = some r) :
    Calls Try.prog 140 #[.slice A0 l0.length c0] w fun e w' => ∃ v0_ : Value, e = .returned (v0_) ∧ Kd.R k166 166 w' w.heap.size (fun _ => True) v0_ r ∧ Below w.heap.size w w' := by
  have q22 : ∀ (w : World) (a : Option Addr) (n c n' c' : Nat), (binOp .eql 104 (.slice a n c) (.slice none n' c')).run Try.prog w = .ok (.bool a.isNone) w := fun w a n c n' c' => Lib.run_eql_slice_nil w _ _ a n c n' c' Try.underlying104
  unfold impl_Entry.f at h
  have hlim : l0.length * 24 ≤ 140737488355328 := by
    by_cases hlim : l0.length * 24 ≤ 140737488355328
    · exact hlim
    · rw [if_neg hlim] at h; exact absurd h (by simp)
  rw [if_pos hlim] at h
  obtain rfl := Option.some.inj h
  clear h
  have HLIM := Aside0.mk hlim
  clear hlim
  cases A0 with
  | none =>
    have h0 : l0 = [] := by
      rcases l0 with _ | ⟨x, xs⟩
      · rfl
      · obtain ⟨ad, _, he, _⟩ := Kd.C_get hr0 x 0 (by omega) (by first | (simp; done) | (simp; omega))
        cases he
    clear hr0 HLIM hc0
    subst h0
    go_enter Try.func140, Try.ntmps140
    go_wp2
    go_ret
    exact ⟨_, rfl, Kd.R_nil _ _ _ _ _, Below.refl _ _⟩
  | some ad =>
    have HR := Aside0.mk hr0
    clear hr0 hc0
    go_enter Try.func140, Try.ntmps140
    go_wp2_with (first | ((with_reducible refine gate_dst (N := 5) rfl ?_); refine Kd.R_lit k166 w.heap.size 166 ?hg (N := 5) ?hd (xs := []) (inner := []) (ok := fun _ => True) (okp := fun _ => True) ?hr ?hp (fun _ hk => hk) trivial (Below.refl _ _) (Nat.le_refl _) (by simp) ?_; (case hd => rfl); (case hg => rfl); (case hr => first | (go_simp; done) | (go_simp; rfl)); (case hp => exact (Reps.none _ _)); intro v6 w6 ho6 hb6 hg_ hnew_; clear hg_ hnew_; have HO := Aside0.mk ho6; have HB := Aside0.mk hb6; clear ho6 hb6) | ((with_reducible refine gate_builtin (b := .append) (xs := #[.tmp 5, .tmp 6]) rfl ?_); at_builtin; refine Kd.R_append_rows k166 (w0 := w) w.heap.size rfl (.tmp 5) (.tmp 6) 104 166 (.agg #[(.int .i64 0), (.int .i64 0), (.int .i64 0)]) 24 rfl Try.underlying104 (by kernel_rfl) rfl (by decide) (by omega) v6 [] l0 _ _ _ (fun _ => True) (fun _ => False) rfl rfl HO.out (Kd.C_below HR.out HB.out) ?hKM (fun _ h => h.elim) (fun _ _ => trivial) HB.out HB.out.size (by have := HLIM.out; simp; omega) ?_; (case hKM => intro x cs hk; exact hk); intro v7 w7 ho7 hb7 hg7 hat7; have HO7 := Aside0.mk ho7; have HB7 := Aside0.mk hb7; clear ho7 hb7 hg7 hat7))
    go_ret
    exact ⟨_, rfl, by simpa using HO7.out, HB7.out⟩
def impl_Word_186.f (l0 : List S141) : Option (List S141) := if l0.length * 24 ≤ 140737488355328 then some l0 else none
set_option maxHeartbeats 2000000 in
set_option maxRecDepth 100000 in
theorem impl_Word_186.calls (A0 : Option Addr) (c0 : Nat) (l0 : List S141) (r : List S141) (w : World) (hr0 : Kd.C k141 w A0 l0.length l0) (hc0 : l0.length ≤ c0) (h : impl_Word_186.f l0 = some r) :
    Calls Try.prog 186 #[.slice A0 l0.length c0] w fun e w' => ∃ v0_ : Value, e = .returned (v0_) ∧ Kd.R k141 141 w' w.heap.size (fun _ => True) v0_ r ∧ Below w.heap.size w w' := by
  have q22 : ∀ (w : World) (a : Option Addr) (n c n' c' : Nat), (binOp .eql 47 (.slice a n c) (.slice none n' c')).run Try.prog w = .ok (.bool a.isNone) w := fun w a n c n' c' => Lib.run_eql_slice_nil w _ _ a n c n' c' Try.underlying47
  unfold impl_Word_186.f at h
  have hlim : l0.length * 24 ≤ 140737488355328 := by
    by_cases hlim : l0.length * 24 ≤ 140737488355328
    · exact hlim
    · rw [if_neg hlim] at h; exact absurd h (by simp)
  rw [if_pos hlim] at h
  obtain rfl := Option.some.inj h
  clear h
  have HLIM := Aside0.mk hlim
  clear hlim
  cases A0 with
  | none =>
    have h0 : l0 = [] := by
      rcases l0 with _ | ⟨x, xs⟩
      · rfl
      · obtain ⟨ad, _, he, _⟩ := Kd.C_get hr0 x 0 (by omega) (by first | (simp; done) | (simp; omega))
        cases he
    clear hr0 HLIM hc0
    subst h0
    go_enter Try.func186, Try.ntmps186
    go_wp2
    go_ret
    exact ⟨_, rfl, Kd.R_nil _ _ _ _ _, Below.refl _ _⟩
  | some ad =>
    have HR := Aside0.mk hr0
    clear hr0 hc0
    go_enter Try.func186, Try.ntmps186
    go_wp2_with (first | ((with_reducible refine gate_dst (N := 5) rfl ?_); refine Kd.R_lit k141 w.heap.size 141 ?hg (N := 5) ?hd (xs := []) (inner := []) (ok := fun _ => True) (okp := fun _ => True) ?hr ?hp (fun _ hk => hk) trivial (Below.refl _ _) (Nat.le_refl _) (by simp) ?_; (case hd => rfl); (case hg => rfl); (case hr => first | (go_simp; done) | (go_simp; rfl)); (case hp => exact (Reps.none _ _)); intro v6 w6 ho6 hb6 hg_ hnew_; clear hg_ hnew_; have HO := Aside0.mk ho6; have HB := Aside0.mk hb6; clear ho6 hb6) | ((with_reducible refine gate_builtin (b := .append) (xs := #[.tmp 5, .tmp 6]) rfl ?_); at_builtin; refine Kd.R_append_rows k141 (w0 := w) w.heap.size rfl (.tmp 5) (.tmp 6) 47 141 (.agg #[(.int .i64 0), (.int .i64 0), (.int .i64 0)]) 24 rfl Try.underlying47 (by kernel_rfl) rfl (by decide) (by omega) v6 [] l0 _ _ _ (fun _ => True) (fun _ => False) rfl rfl HO.out (Kd.C_below HR.out HB.out) ?hKM (fun _ h => h.elim) (fun _ _ => trivial) HB.out HB.out.size (by have := HLIM.out; simp; omega) ?_; (case hKM => intro x cs hk; exact hk); intro v7 w7 ho7 hb7 hg7 hat7; have HO7 := Aside0.mk ho7; have HB7 := Aside0.mk hb7; clear ho7 hb7 hg7 hat7))
    go_ret
    exact ⟨_, rfl, by simpa using HO7.out, HB7.out⟩
end Go.Proofs.Ytopikhjcbcpiaaa.Q
end
namespace Go.Proofs.Ytopikhjcbcpiaaa.Q
open Go.RowKit Go.Proofs.YtopikhjcbcpiaaaW.PrintWords Go.Proofs.YtopikhjcbcpiaaaW.PrintLast Go.Proofs.YtopikhjcbcpiaaaW.PrintMore
attribute [local go_sem] max2_int min2_int max_two min_two max_three min_three max_four min_four   -- for this text's walks alone
set_option linter.unusedVariables false
set_option linter.unusedSimpArgs false
def impl_copyRows.f (l0_0 : List Int) (a0_1 : Int) : Option (List Int × Int) := (slices_Clone_int_int.f l0_0).bind fun t604 => (some (t604, a0_1))
set_option maxHeartbeats 8000000 in
set_option maxRecDepth 100000 in
theorem impl_copyRows.calls (A0_0 : Option Addr) (c0_0 : Nat) (l0_0 : List Int) (a0_1 : Int) (r1 : List Int) (r2 : Int) (w : World) (hr0_0 : Kd.C (Kd.int .i64) w A0_0 l0_0.length l0_0) (hc0_0 : l0_0.length ≤ c0_0) (h : impl_copyRows.f l0_0 a0_1 = some (r1, r2)) :
  Calls Try.prog 104 #[.agg #[.slice A0_0 l0_0.length c0_0, .int .i64 a0_1]] w fun e w' => ∃ v0_ : Value, e = .returned (.agg #[v0_, .int .i64 r2]) ∧ Kd.R (Kd.int .i64) 3 w' w.heap.size (fun _ => True) v0_ r1 ∧ Below w.heap.size w w' := by
 have hu65 := Try.underlying65
 have HR0_0 := Aside0.mk hr0_0
 have HC0_0 := Aside0.mk hc0_0
 clear hr0_0 hc0_0
 have HB := Aside0.mk (Below.refl w.heap.size w)
 have H : ((slices_Clone_int_int.f l0_0).bind fun t604 => (some (t604, a0_1))) = some (r1, r2) := h
 clear h
 replace H := Option.bind_eq_some_iff.mp H
 obtain ⟨t604, A20, H⟩ := H
 replace H : (some (t604, a0_1)) = some (r1, r2) := H
 have A2 := Aside0.mk A20
 clear A20
 simp only [Option.some.injEq, Prod.mk.injEq] at H
 obtain ⟨rfl, rfl⟩ := H
 go_enter Try.func104, Try.ntmps104
 try go_wp2_with (first | ((with_reducible refine gate_dst (N := 1) rfl ?_); refine bx (N := 1) (cs := #[.slice A0_0 l0_0.length c0_0, .int .i64 a0_1]) (t := 65) ?_; intro gb602 hg w3 hbox hb; have BK602 := Aside0.mk (hbox); have GW602 := Aside0.mk (ge_ hg HB); have GE602 := Aside0.mk (ge_ hg HB); replace HB := bs HB hb; clear hb hbox hg) | ((with_reducible refine gate_dst (N := 2) rfl ?_); refine bx (N := 2) (cs := #[.slice none 0 0, .int .i64 0]) (t := 65) ?_; intro gb603 hg w4 hbox hb; have BK603 := Aside0.mk (hbox); have GW603 := Aside0.mk (ge_ hg HB); have GE603 := Aside0.mk (ge_ hg HB); replace HB := bs HB hb; have NB602_603 := Aside0.mk (nl_ hg BK602); have NB603_602 := Aside0.mk (ng_ hg BK602); replace BK602 := bb BK602 hb; clear hb hbox hg))
 replace BK602 := bd BK602
 replace BK603 := bd BK603
 replace HB := Aside0.mk (below_drew1 HB.out)
 refine start_ (n := 7) (S := fun w' => w'.cell? ⟨gb602, 0, none⟩ = some (.slice A0_0 l0_0.length c0_0) ∧ w'.cell? ⟨gb602, 1, none⟩ = some (.int .i64 a0_1)) (ds := []) #[false, false, false, false, false, false, false] (by kernel_rfl) rfl rfl ⟨cz BK602 0, cz BK602 1⟩ (fun hHeld => ?_)
 generalize w4.drew = w5 at BK602 BK603 HB hHeld ⊢
 refine pu 0 3 ?_
 refine pu 3 6 ?_
 refine ta 1 4 ?_
 refine ta 4 7 ?_
 refine one_ (i := 2) (N := some 5) #[true, true, true, true, true, false, false] rfl rfl (by kernel_rfl) (by decide) (fun K hK => ?_)
 refine gS Try.func158 #[.slice A0_0 l0_0.length c0_0] ?_
 with_reducible refine (slices_Clone_int_int.calls _ _ l0_0 t604 _ ?side1 ?side2 A2.out).mono ?_
 (case side1 => exact kc HR0_0 HB)
 (case side2 => exact HC0_0.out)
 rintro e w6 ⟨v605, rfl, ho0, hb⟩
 refine ⟨_, rfl, ?_⟩
 have HO606 := Aside0.mk (Kd.R_lower ho0 (below_size (tb HB)))
 replace BK602 := bb BK602 hb
 replace BK603 := bb BK603 hb
 replace HB := bs HB hb
 (try clear hb)
 (try clear hb2)
 (try clear hk)
 (try clear hi)
 (try clear ho0)
 obtain ⟨Ao7, co7, eo7⟩ := Kd.R_slice HO606.out
 (first | subst eo7 | (injection eo7 with f1_ f2_ f3_; have f4_ := f1_.symm; have f5_ := f3_.symm; clear f1_ f2_ f3_; subst f4_; subst f5_))
 refine hK.out _ _ ⟨cz BK602 0, cz BK602 1⟩ (fun hHeld => ?_)
 clear hK K
 refine nm 5 ?_
 refine pu 5 8 ?_
 refine one_ (i := 6) (N := none) #[true, true, true, true, true, true, true] rfl rfl (by kernel_rfl) (by decide) (fun K hK => ?_)
 have hs8 : w6.cell? ⟨gb603, 0, none⟩ = some (.slice none 0 0) := cz BK603 0
 have hfs8 := blk_frozen BK603.out 0
 have hns8_0 := NB602_603.out
 have hms8_0 := NB603_602.out
 have hs9 : w6.cell? ⟨gb603, 1, none⟩ = some (.int .i64 0) := cz BK603 1
 have hfs9 := blk_frozen BK603.out 1
 have hns9_0 := NB602_603.out
 have hms9_0 := NB603_602.out
 refine skip_ (w1 := ?_) (by rfl) rfl ?_ ?_
 rotate_left
 ·go_simp
  rfl
 refine hK.out _ _ ⟨((cell_far (p := ⟨gb603, _, none⟩) NB602_603.out _).trans (((cell_far (p := ⟨gb603, _, none⟩) NB602_603.out _).trans (hHeld.1)))), ((cell_far (p := ⟨gb603, _, none⟩) NB602_603.out _).trans (((cell_far (p := ⟨gb603, _, none⟩) NB602_603.out _).trans (hHeld.2))))⟩ (fun hHeld => ?_)
 clear hK K
 refine done_ (by kernel_rfl) ?_
 try go_wp2
 refine bodyPost_ret (results_cell_row rfl _ _ gb603 65 #[.slice Ao7 t604.length co7, .int .i64 a0_1] (0, 0) _ rfl (by (with_reducible repeat (first | refine blk_drewN ?_ _ | refine blk_drew ?_ | refine blk_alloc ?_ _)); refine blk_put (cs := #[.slice Ao7 t604.length co7, .int .i64 0]) ?_ 1 _ rfl; (with_reducible repeat (first | refine blk_drewN ?_ _ | refine blk_drew ?_ | refine blk_alloc ?_ _)); refine blk_put (cs := #[.slice none 0 0, .int .i64 0]) ?_ 0 _ rfl; (with_reducible repeat (first | refine blk_drewN ?_ _ | refine blk_drew ?_ | refine blk_alloc ?_ _)); exact BK603.out) Try.underlying65 rfl (by kernel_rfl)) rfl ?_
 exact ⟨_, er, by (with_reducible repeat (first | apply Kd.R_alloc | apply Kd.R_drewN | apply Kd.R_drew)); exact Kd.R_mono (Kd.R_far (p := ⟨gb603, 1, none⟩) (Kd.R_far (p := ⟨gb603, 0, none⟩) (Kd.R_types HO606.out BK603.out (by decide)) (fun _ hk => hk.2) (.slice Ao7 t604.length co7)) (fun _ hk => hk.2) (.int .i64 a0_1)) (fun _ hk => trivial), tb HB⟩
end Go.Proofs.Ytopikhjcbcpiaaa.Q
