/- Part 7 of the steps by which the law is shown: what each function of the program, of the reference and of the law computes. No condition. -/
import Derived.Test.YtopikhjcbcpiaaaMnw0
import Derived.Test.YtopikhjcbcpiaaaMnw2
import Derived.Test.YtopikhjcbcpiaaaMnw3
import Derived.Test.YtopikhjcbcpiaaaMnw5
namespace Go.Proofs.Ytopikhjcbcpiaaa.Q
open Go.RowKit Go.Proofs.YtopikhjcbcpiaaaW.PrintWords Go.Proofs.YtopikhjcbcpiaaaW.PrintLast Go.Proofs.YtopikhjcbcpiaaaW.PrintMore
attribute [local go_sem] max2_int min2_int max_two min_two max_three min_three max_four min_four   -- for this text's walks alone
set_option linter.unusedVariables false
set_option linter.unusedSimpArgs false
def impl_RowsOk.l0 : Nat → List Int → Int → Int → List Int → Int → Option (Bool)
 | 0, _, _, _, _, _ => none
 | k + 1, x6, x7, x8, x567000, x567001 => if x8 < x7 then (if 0 ≤ x8 then (if x8 < (x6.length : Int) then (if (rd x6 x8) = 0 then (impl_RowsOk.l0 k x6 x7 (wrap64 (x8 + 1)) x567000 x567001) else ((impl_ValOk.f (rd x6 x8)).bind fun t569 => (if t569 = true then (if x8 ≤ (x567000.length : Int) then ((slices_Contains_int_int.f k (x567000.take (x8 : Int).toNat) (rd x6 x8)).bind fun t571 => (if t571 = true then (some false) else (impl_RowsOk.l0 k x6 x7 (wrap64 (x8 + 1)) x567000 x567001))) else (none)) else (some false)))) else (none)) else (none)) else (if (x567000.length : Int) = 4 then ((impl_from.f x567001 0 5).bind fun t567 => (some t567)) else (some false))
def impl_RowsOk.f (k : Nat) (l0_0 : List Int) (a0_1 : Int) : Option (Bool) := impl_RowsOk.l0 k l0_0 (l0_0.length : Int) 0 l0_0 a0_1
theorem impl_RowsOk.mono_l : ∀ k, (∀ y0 y1 y2 y3 y4, LeO (impl_RowsOk.l0 k y0 y1 y2 y3 y4) (impl_RowsOk.l0 (k + 1) y0 y1 y2 y3 y4))
 | 0 => fun _ _ _ _ _ r h => by simp [impl_RowsOk.l0] at h
 | k + 1 => by
  have ih0 := impl_RowsOk.mono_l k
  ·intro y0 y1 y2 y3 y4
   unfold impl_RowsOk.l0
   repeat' first
   | (with_reducible exact ih0 _ _ _ _ _)
   | (with_reducible exact slices_Contains_int_int.mono _ _ _)
   | (with_reducible exact LeO.refl _)
   | (with_reducible exact LeO.none _)
   | (with_reducible refine LeO.ite ?_ ?_)
   | (with_reducible refine LeO.bind ?_ (fun _ => ?_))
   | exact ih0 _ _ _ _ _
   | exact slices_Contains_int_int.mono _ _ _
   | exact LeO.none _
   | refine LeO.ite ?_ ?_
   | refine LeO.bind ?_ (fun _ => ?_)
theorem impl_RowsOk.mono : ∀ a0 a1 k, LeO (impl_RowsOk.f k a0 a1) (impl_RowsOk.f (k + 1) a0 a1) := by
 intro a0 a1 k
 have ih0 := impl_RowsOk.mono_l k
 unfold impl_RowsOk.f
 repeat' first
   | (with_reducible exact ih0 _ _ _ _ _)
   | (with_reducible exact slices_Contains_int_int.mono _ _ _)
   | (with_reducible exact LeO.refl _)
   | (with_reducible exact LeO.none _)
   | (with_reducible refine LeO.ite ?_ ?_)
   | (with_reducible refine LeO.bind ?_ (fun _ => ?_))
   | exact ih0 _ _ _ _ _
   | exact slices_Contains_int_int.mono _ _ _
   | exact LeO.none _
   | refine LeO.ite ?_ ?_
   | refine LeO.bind ?_ (fun _ => ?_)
set_option maxHeartbeats 8000000 in
set_option maxRecDepth 100000 in
theorem impl_RowsOk.calls (k : Nat) (A0_0 : Option Addr) (c0_0 : Nat) (l0_0 : List Int) (a0_1 : Int) (r : Bool) (w : World) (hr0_0 : Kd.C (Kd.int .i64) w A0_0 l0_0.length l0_0) (hc0_0 : l0_0.length ≤ c0_0) (h : impl_RowsOk.f k l0_0 a0_1 = some r) :
  Calls Try.prog 55 #[.agg #[.slice A0_0 l0_0.length c0_0, .int .i64 a0_1]] w fun e w' => e = .returned (.bool r) ∧ Below w.heap.size w w' := by
 have hu65 := Try.underlying65
 have HR0_0 := Aside0.mk hr0_0
 have HC0_0 := Aside0.mk hc0_0
 clear hr0_0 hc0_0
 have HB := Aside0.mk (Below.refl w.heap.size w)
 have H := h
 clear h
 unfold impl_RowsOk.f at H
 have H' := Aside0.mk H
 clear H
 go_enter Try.func55, Try.ntmps55
 go_wp2_with (first | ((with_reducible refine gq 1 rfl ?_); refine bx0 HB (N := 1) (t := 65) ?_; clear HB; intro gb566 w2 BK566 GE566 HB; have hz3 := cs2_ BK566))
 go_loopg [8] k (fun kq v8 w' => ∃ (x8_1 : Int), v8 = .int .i64 x8_1 ∧ Aside0 (impl_RowsOk.l0 kq l0_0 (l0_0.length : Int) x8_1 l0_0 a0_1 = some r) ∧ Aside0 (kq ≤ k) ∧ Aside0 (w'.heap[gb566]? = some (.cells #[(.slice A0_0 l0_0.length c0_0), .int .i64 a0_1] 65 (0, 0))) ∧ Aside0 (Below w.heap.size w w'))
 case atStart => exact ⟨(0), rsd, H', ⟨Nat.le_refl _⟩, ⟨by (with_reducible repeat (first | refine blk_drewN ?_ _ | refine blk_drew ?_ | refine blk_alloc ?_ _)); exact BK566.out⟩, ⟨tb HB⟩⟩
 case round =>
  clear H'
  obtain ⟨x8_1, rfl, HA, HK1, BK566, HB⟩ := hrel
  cases gk with
  | zero => exact absurd HA.out (by simp [impl_RowsOk.l0])
  | succ k1 =>
   have H := HA.out
   clear HA
   simp only [impl_RowsOk.l0] at H
   revert H; refine icd (fun c4b0 H => ?_) fun c4b0 H => ?neg
   case neg =>
    by_cases c18 : (l0_0.length : Int) = 4
    case neg =>
     rw [if_neg c18] at H
     have c18b0 : ((l0_0.length : Int) == 4) = false := beq_eq_false_iff_ne.mpr c18
     have c18b1 : ((l0_0.length : Int) != 4) = true := bne_iff_ne.mpr c18
     obtain rfl := oin H
     have hz21 := cs2_ BK566
     go_wp2
     go_ret
     exact ⟨er, tb HB⟩
    rw [if_pos c18] at H
    have c18b0 : ((l0_0.length : Int) == 4) = true := beq_iff_eq.mpr c18
    have c18b1 : ((l0_0.length : Int) != 4) = false := bne_eq_false_iff_eq.mpr c18
    clear c18
    obtain ⟨t567, A19, H⟩ := bn H
    try dsimp only at H
    obtain rfl := oin H
    have hz20 := cs2_ BK566
    go_wp2_with (first | (go_at_call 85; (with_reducible refine (impl_from.calls a0_1 0 5 t567 _ A19.out).mono ?_); rintro e w' ⟨rfl, ⟨nd, rfl⟩⟩))
    go_ret
    exact ⟨er, tb HB⟩
   obtain ⟨c5b0, H⟩ := itd H
   obtain ⟨c6b0, H⟩ := itd H
   by_cases c7 : (rd l0_0 x8_1) = 0
   case pos =>
    rw [if_pos c7] at H
    have c7b0 : ((rd l0_0 x8_1) == 0) = true := beq_iff_eq.mpr c7
    have c7b1 : ((rd l0_0 x8_1) != 0) = false := bne_eq_false_iff_eq.mpr c7
    clear c7
    have H' := Aside0.mk H
    clear H
    have p568 : 0 ≤ (x8_1 : Int) := od
    have q568 : x8_1 < (l0_0.length : Int) := od
    obtain ⟨ad568, e568, hx568_0⟩ := Kd.at_int HR0_0.out x8_1 p568 q568
    cases e568
    replace hx568_0 := ox HB hx568_0
    replace p568 := eq_true p568
    replace q568 := eq_true q568
    go_wp2
    go_roundg k1
    case measure => have := HK1.out; omega
    case rel => exact ⟨(wrap64 (x8_1 + 1)), rsd, H', ⟨by have := HK1.out; omega⟩, ⟨by (with_reducible repeat (first | refine blk_drewN ?_ _ | refine blk_drew ?_ | refine blk_alloc ?_ _)); exact BK566.out⟩, ⟨tb HB⟩⟩
   rw [if_neg c7] at H
   have c7b0 : ((rd l0_0 x8_1) == 0) = false := beq_eq_false_iff_ne.mpr c7
   have c7b1 : ((rd l0_0 x8_1) != 0) = true := bne_iff_ne.mpr c7
   obtain ⟨t569, A8, H⟩ := bn H
   try dsimp only at H
   cases t569
   case false =>
    replace H := ipf H
    obtain rfl := oin H
    have p568 : 0 ≤ (x8_1 : Int) := od
    have q568 : x8_1 < (l0_0.length : Int) := od
    obtain ⟨ad568, e568, hx568_0⟩ := Kd.at_int HR0_0.out x8_1 p568 q568
    cases e568
    replace hx568_0 := ox HB hx568_0
    replace p568 := eq_true p568
    replace q568 := eq_true q568
    go_wp2_with (first | (go_at_call 120; (with_reducible refine (impl_ValOk.calls (rd l0_0 x8_1) false _ A8.out).mono ?_); rintro e w' ⟨rfl, ⟨nd, rfl⟩⟩))
    go_ret
    exact ⟨er, tb HB⟩
   replace H := ipt H
   have c10b0 := eq_true (od : 0 ≤ x8_1)
   obtain ⟨c11b0, c11b1, H⟩ := itb H
   obtain ⟨t571, A12, H⟩ := bn H
   try dsimp only at H
   cases t571
   case true =>
    replace H := ipt H
    obtain rfl := oin H
    have p568 : 0 ≤ (x8_1 : Int) := od
    have q568 : x8_1 < (l0_0.length : Int) := od
    obtain ⟨ad568, e568, hx568_0⟩ := Kd.at_int HR0_0.out x8_1 p568 q568
    cases e568
    replace hx568_0 := ox HB hx568_0
    replace p568 := eq_true p568
    replace q568 := eq_true q568
    go_wp2_with (first | (go_at_call 120; (with_reducible refine (impl_ValOk.calls (rd l0_0 x8_1) true _ A8.out).mono ?_); rintro e w' ⟨rfl, ⟨nd, rfl⟩⟩; have hz14 := cs2_ BK566; obtain ⟨i015, hi015, _, hsz15, _⟩ := info_parts info3; obtain ⟨hcut15, hA15, hC15⟩ := print_take_of (P := Try.prog) (Value.int .i64) 0 22 3 .i64 Try.underlying22 hi015 hsz15 (some ad568) c0_0 l0_0 x8_1 (od) (od) HC0_0.out; have HR570 := Aside0.mk (Kd.C_of_reads (h1 := fun _ => rfl) (hA15 _ (Kd.reads_of_C HR0_0.out))); have HC570 := Aside0.mk hC15; clear hA15 hC15 hi015 hsz15) | (go_at_call 126; refine calls_of_args (args' := #[.slice (some ad568) (l0_0.take (x8_1 : Int).toNat).length c0_0, .int .i64 (rd l0_0 x8_1)]) (by first | (rw [show (l0_0.take (x8_1 : Int).toNat).length = x8_1.toNat from (by rw [List.length_take]; have h_ : (x8_1 : Int) ≤ (l0_0.length : Int) := od; omega)] <;> rfl) | rfl) ?_; (with_reducible refine (slices_Contains_int_int.calls k1 _ _ (l0_0.take (x8_1 : Int).toNat) (rd l0_0 x8_1) true _ ?side1 HC570.out A12.out).mono ?_); (case side1 => repeat (first | exact (Kd.C_below HR570.out (tb HB)) | (with_reducible refine Kd.C_alloc ?_ _) | (with_reducible refine Kd.C_drewN ?_ _) | (with_reducible refine Kd.C_drew ?_))); rintro e w' ⟨rfl, ⟨nd, rfl⟩⟩))
    go_ret
    exact ⟨er, tb HB⟩
   replace H := ipf H
   have H' := Aside0.mk H
   clear H
   have p568 : 0 ≤ (x8_1 : Int) := od
   have q568 : x8_1 < (l0_0.length : Int) := od
   obtain ⟨ad568, e568, hx568_0⟩ := Kd.at_int HR0_0.out x8_1 p568 q568
   cases e568
   replace hx568_0 := ox HB hx568_0
   replace p568 := eq_true p568
   replace q568 := eq_true q568
   go_wp2_with (first | (go_at_call 120; (with_reducible refine (impl_ValOk.calls (rd l0_0 x8_1) true _ A8.out).mono ?_); rintro e w' ⟨rfl, ⟨nd, rfl⟩⟩; have hz16 := cs2_ BK566; obtain ⟨i017, hi017, _, hsz17, _⟩ := info_parts info3; obtain ⟨hcut17, hA17, hC17⟩ := print_take_of (P := Try.prog) (Value.int .i64) 0 22 3 .i64 Try.underlying22 hi017 hsz17 (some ad568) c0_0 l0_0 x8_1 (od) (od) HC0_0.out; have HR570 := Aside0.mk (Kd.C_of_reads (h1 := fun _ => rfl) (hA17 _ (Kd.reads_of_C HR0_0.out))); have HC570 := Aside0.mk hC17; clear hA17 hC17 hi017 hsz17) | (go_at_call 126; refine calls_of_args (args' := #[.slice (some ad568) (l0_0.take (x8_1 : Int).toNat).length c0_0, .int .i64 (rd l0_0 x8_1)]) (by first | (rw [show (l0_0.take (x8_1 : Int).toNat).length = x8_1.toNat from (by rw [List.length_take]; have h_ : (x8_1 : Int) ≤ (l0_0.length : Int) := od; omega)] <;> rfl) | rfl) ?_; (with_reducible refine (slices_Contains_int_int.calls k1 _ _ (l0_0.take (x8_1 : Int).toNat) (rd l0_0 x8_1) false _ ?side1 HC570.out A12.out).mono ?_); (case side1 => repeat (first | exact (Kd.C_below HR570.out (tb HB)) | (with_reducible refine Kd.C_alloc ?_ _) | (with_reducible refine Kd.C_drewN ?_ _) | (with_reducible refine Kd.C_drew ?_))); rintro e w' ⟨rfl, ⟨nd, rfl⟩⟩))
   go_roundg k1
   case measure => have := HK1.out; omega
   case rel => exact ⟨(wrap64 (x8_1 + 1)), rsd, H', ⟨by have := HK1.out; omega⟩, ⟨by (with_reducible repeat (first | refine blk_drewN ?_ _ | refine blk_drew ?_ | refine blk_alloc ?_ _)); exact BK566.out⟩, ⟨tb HB⟩⟩
def impl_ClassOf.f (a0 : Int) : Option (Int) := (impl_ValOk.f a0).bind fun t583 => (if t583 = true then (some (Int.tmod a0 3)) else (some (-1)))
set_option maxHeartbeats 8000000 in
set_option maxRecDepth 100000 in
theorem impl_ClassOf.calls (a0 : Int) (r : Int) (w : World) (h : impl_ClassOf.f a0 = some r) :
  Calls Try.prog 177 #[.int .i64 a0] w fun e w' => e = .returned (.int .i64 r) ∧ Drawn0 w w' := by
 have H := h
 clear h
 unfold impl_ClassOf.f at H
 obtain ⟨t583, A2, H⟩ := bn H
 try dsimp only at H
 cases t583
 case true =>
  replace H := ipt H
  obtain rfl := oin H
  go_enter Try.func177, Try.ntmps177
  go_wp2_with (first | ((with_reducible refine gf 120 rfl ?_); refine gL 4 Try.func120 #[.int .i64 a0] ?_; (with_reducible refine (impl_ValOk.calls a0 true _ A2.out).mono ?_); rintro e w' ⟨rfl, ⟨nd, rfl⟩⟩; refine ⟨_, rfl, ?_⟩))
  go_ret
  exact ⟨rsd, by repeat (first | exact Drawn0.refl _ | apply Drawn0.step)⟩
 replace H := ipf H
 obtain rfl := oin H
 go_enter Try.func177, Try.ntmps177
 go_wp2_with (first | ((with_reducible refine gf 120 rfl ?_); refine gL 4 Try.func120 #[.int .i64 a0] ?_; (with_reducible refine (impl_ValOk.calls a0 false _ A2.out).mono ?_); rintro e w' ⟨rfl, ⟨nd, rfl⟩⟩; refine ⟨_, rfl, ?_⟩))
 go_ret
 exact ⟨rsd, by repeat (first | exact Drawn0.refl _ | apply Drawn0.step)⟩
def impl_OwnerAt.f (a0 : Int) : Option (Int) := (impl_ValOk.f a0).bind fun t1072 => ((impl_placed.f t1072 (wrap64 (3 + a0))).bind fun t1073 => (some t1073))
set_option maxHeartbeats 8000000 in
set_option maxRecDepth 100000 in
theorem impl_OwnerAt.calls (a0 : Int) (r : Int) (w : World) (h : impl_OwnerAt.f a0 = some r) :
  Calls Try.prog 175 #[.int .i64 a0] w fun e w' => e = .returned (.int .i64 r) ∧ Drawn0 w w' := by
 have H := h
 clear h
 unfold impl_OwnerAt.f at H
 obtain ⟨t1072, A2, H⟩ := bn H
 try dsimp only at H
 obtain ⟨t1073, A3, H⟩ := bn H
 try dsimp only at H
 obtain rfl := oin H
 go_enter Try.func175, Try.ntmps175
 go_wp2_with (first | ((with_reducible refine gf 120 rfl ?_); refine gL 4 Try.func120 #[.int .i64 a0] ?_; (with_reducible refine (impl_ValOk.calls a0 t1072 _ A2.out).mono ?_); rintro e w' ⟨rfl, ⟨nd, rfl⟩⟩; refine ⟨_, rfl, ?_⟩) | ((with_reducible refine gf 194 rfl ?_); refine gL 7 Try.func194 #[.bool t1072, .int .i64 (wrap64 (3 + a0))] ?_; (with_reducible refine (impl_placed.calls t1072 (wrap64 (3 + a0)) t1073 _ A3.out).mono ?_); rintro e w' ⟨rfl, ⟨nd, rfl⟩⟩; refine ⟨_, rfl, ?_⟩))
 go_ret
 exact ⟨rsd, by repeat (first | exact Drawn0.refl _ | apply Drawn0.step)⟩
def impl_CountAt.f (a0 : Int) : Option (Int) := (impl_isClass.f a0).bind fun t1074 => ((impl_placed.f t1074 (wrap64 (10 + a0))).bind fun t1075 => (some t1075))
set_option maxHeartbeats 8000000 in
set_option maxRecDepth 100000 in
theorem impl_CountAt.calls (a0 : Int) (r : Int) (w : World) (h : impl_CountAt.f a0 = some r) :
  Calls Try.prog 176 #[.int .i64 a0] w fun e w' => e = .returned (.int .i64 r) ∧ Drawn0 w w' := by
 have H := h
 clear h
 unfold impl_CountAt.f at H
 obtain ⟨t1074, A2, H⟩ := bn H
 try dsimp only at H
 obtain ⟨t1075, A3, H⟩ := bn H
 try dsimp only at H
 obtain rfl := oin H
 go_enter Try.func176, Try.ntmps176
 go_wp2_with (first | ((with_reducible refine gf 121 rfl ?_); refine gL 4 Try.func121 #[.int .i64 a0] ?_; (with_reducible refine (impl_isClass.calls a0 t1074 _ A2.out).mono ?_); rintro e w' ⟨rfl, ⟨nd, rfl⟩⟩; refine ⟨_, rfl, ?_⟩) | ((with_reducible refine gf 194 rfl ?_); refine gL 7 Try.func194 #[.bool t1074, .int .i64 (wrap64 (10 + a0))] ?_; (with_reducible refine (impl_placed.calls t1074 (wrap64 (10 + a0)) t1075 _ A3.out).mono ?_); rintro e w' ⟨rfl, ⟨nd, rfl⟩⟩; refine ⟨_, rfl, ?_⟩))
 go_ret
 exact ⟨rsd, by repeat (first | exact Drawn0.refl _ | apply Drawn0.step)⟩
def impl_ViaAt.f (a0 : Int) : Option (Int) := (impl_ValOk.f a0).bind fun t1076 => ((impl_StateAt.f).bind fun t1077 => ((impl_placed.f t1076 (wrap64 (t1077 + a0))).bind fun t1078 => (some t1078)))
set_option maxHeartbeats 8000000 in
set_option maxRecDepth 100000 in
theorem impl_ViaAt.calls (a0 : Int) (r : Int) (w : World) (h : impl_ViaAt.f a0 = some r) :
  Calls Try.prog 178 #[.int .i64 a0] w fun e w' => e = .returned (.int .i64 r) ∧ Drawn0 w w' := by
 have H := h
 clear h
 unfold impl_ViaAt.f at H
 obtain ⟨t1076, A2, H⟩ := bn H
 try dsimp only at H
 obtain ⟨t1077, A3, H⟩ := bn H
 try dsimp only at H
 obtain ⟨t1078, A4, H⟩ := bn H
 try dsimp only at H
 obtain rfl := oin H
 go_enter Try.func178, Try.ntmps178
 go_wp2_with (first | ((with_reducible refine gf 120 rfl ?_); refine gL 4 Try.func120 #[.int .i64 a0] ?_; (with_reducible refine (impl_ValOk.calls a0 t1076 _ A2.out).mono ?_); rintro e w' ⟨rfl, ⟨nd, rfl⟩⟩; refine ⟨_, rfl, ?_⟩) | ((with_reducible refine gf 179 rfl ?_); refine gL 5 Try.func179 #[] ?_; (with_reducible refine (impl_StateAt.calls  t1077 _ A3.out).mono ?_); rintro e w' ⟨rfl, ⟨nd, rfl⟩⟩; refine ⟨_, rfl, ?_⟩) | ((with_reducible refine gf 194 rfl ?_); refine gL 8 Try.func194 #[.bool t1076, .int .i64 (wrap64 (t1077 + a0))] ?_; (with_reducible refine (impl_placed.calls t1076 (wrap64 (t1077 + a0)) t1078 _ A4.out).mono ?_); rintro e w' ⟨rfl, ⟨nd, rfl⟩⟩; refine ⟨_, rfl, ?_⟩))
 go_ret
 exact ⟨rsd, by repeat (first | exact Drawn0.refl _ | apply Drawn0.step)⟩
def spec_RowsOk.l0 : Nat → Int → List Int → Int → Option (Bool)
 | 0, _, _, _ => none
 | k + 1, x3, x475000, x475001 => if x3 < (x475000.length : Int) then (if 0 ≤ x3 then (if (rd x475000 x3) = 0 then (spec_RowsOk.l0 k (wrap64 (x3 + 1)) x475000 x475001) else ((spec_ValOk.f (rd x475000 x3)).bind fun t478 => (if t478 = true then ((spec_KeyOf.f k x475000 x475001 (rd x475000 x3)).bind fun t480 => (if t480 = x3 then (spec_RowsOk.l0 k (wrap64 (x3 + 1)) x475000 x475001) else (some false))) else (some false)))) else (none)) else (if (x475000.length : Int) = 4 then ((spec_l1In.f x475001 0 5).bind fun t475 => (some t475)) else (some false))
def spec_RowsOk.f (k : Nat) (l0_0 : List Int) (a0_1 : Int) : Option (Bool) := spec_RowsOk.l0 k 0 l0_0 a0_1
theorem spec_RowsOk.mono_l : ∀ k, (∀ y0 y1 y2, LeO (spec_RowsOk.l0 k y0 y1 y2) (spec_RowsOk.l0 (k + 1) y0 y1 y2))
 | 0 => fun _ _ _ r h => by simp [spec_RowsOk.l0] at h
 | k + 1 => by
  have ih0 := spec_RowsOk.mono_l k
  ·intro y0 y1 y2
   unfold spec_RowsOk.l0
   repeat' first
   | (with_reducible exact ih0 _ _ _)
   | (with_reducible exact spec_KeyOf.mono _ _ _ _)
   | (with_reducible exact LeO.refl _)
   | (with_reducible exact LeO.none _)
   | (with_reducible refine LeO.ite ?_ ?_)
   | (with_reducible refine LeO.bind ?_ (fun _ => ?_))
   | exact ih0 _ _ _
   | exact spec_KeyOf.mono _ _ _ _
   | exact LeO.none _
   | refine LeO.ite ?_ ?_
   | refine LeO.bind ?_ (fun _ => ?_)
theorem spec_RowsOk.mono : ∀ a0 a1 k, LeO (spec_RowsOk.f k a0 a1) (spec_RowsOk.f (k + 1) a0 a1) := by
 intro a0 a1 k
 have ih0 := spec_RowsOk.mono_l k
 unfold spec_RowsOk.f
 repeat' first
   | (with_reducible exact ih0 _ _ _)
   | (with_reducible exact spec_KeyOf.mono _ _ _ _)
   | (with_reducible exact LeO.refl _)
   | (with_reducible exact LeO.none _)
   | (with_reducible refine LeO.ite ?_ ?_)
   | (with_reducible refine LeO.bind ?_ (fun _ => ?_))
   | exact ih0 _ _ _
   | exact spec_KeyOf.mono _ _ _ _
   | exact LeO.none _
   | refine LeO.ite ?_ ?_
   | refine LeO.bind ?_ (fun _ => ?_)
def spec_RowsOk.T4 : Bool × List (List Nat × List Nat) := (true, [([], []), ([0], [0]), ([], []), ([1, 2], [1, 2]), ([3], [3]), ([4], [4]), ([5], [5]), ([6], [6]), ([7, 6], [6, 7]), ([6], [6]), ([8, 9, 6], [6, 8, 9]), ([10, 6], [6, 10]), ([11, 6, 6], [6, 11]), ([12, 6], [6, 12]), ([13, 12, 6], [6, 13]), ([14], [14]), ([14], [14]), ([16, 14], [14, 16]), ([14], [14]), ([17, 18, 14], [14, 17, 18]), ([19, 14], [14, 19]), ([15, 20, 14, 14], [14, 15, 20]), ([14], [14]), ([21, 22, 14], [14, 21, 22]), ([14, 23, 6], [6, 14, 23]), ([6, 24], [6, 24])])
def spec_RowsOk.B4 : List Nat := [0, 1, 0, 7, 15, 31, 63, 127, 255, 127, 1023, 2047, 4095, 8191, 16383, 32767, 32767, 98303, 32767, 491519, 1015807, 2097151, 32767, 8388607, 16777215, 33554431]
theorem spec_RowsOk.tab4 : rtab .any (opsOf Try.f115 4) = spec_RowsOk.T4 := by kernel_rfl
theorem spec_RowsOk.bits4 : waitsOk spec_RowsOk.T4.2 spec_RowsOk.B4 = true := by kernel_rfl
set_option maxHeartbeats 8000000 in
set_option maxRecDepth 100000 in
theorem spec_RowsOk.calls (k : Nat) (A0_0 : Option Addr) (c0_0 : Nat) (l0_0 : List Int) (a0_1 : Int) (r : Bool) (w : World) (hr0_0 : Kd.C (Kd.int .i64) w A0_0 l0_0.length l0_0) (hc0_0 : l0_0.length ≤ c0_0) (h : spec_RowsOk.f k l0_0 a0_1 = some r) :
  Calls Try.prog 115 #[.agg #[.slice A0_0 l0_0.length c0_0, .int .i64 a0_1]] w fun e w' => e = .returned (.bool r) ∧ Below w.heap.size w w' := by
 have hu65 := Try.underlying65
 have HR0_0 := Aside0.mk hr0_0
 have HC0_0 := Aside0.mk hc0_0
 clear hr0_0 hc0_0
 have HB := Aside0.mk (Below.refl w.heap.size w)
 have H := h
 clear h
 unfold spec_RowsOk.f at H
 have H' := Aside0.mk H
 clear H
 go_enter Try.func115, Try.ntmps115
 go_wp2_with (first | ((with_reducible refine gq 1 rfl ?_); refine bx0 HB (N := 1) (t := 65) ?_; clear HB; intro gb474 w2 BK474 GE474 HB))
 go_loopg [3] k (fun kq v3 w' => ∃ (x3_1 : Int), v3 = .int .i64 x3_1 ∧ Aside0 (spec_RowsOk.l0 kq x3_1 l0_0 a0_1 = some r) ∧ Aside0 (kq ≤ k) ∧ Aside0 (w'.heap[gb474]? = some (.cells #[(.slice A0_0 l0_0.length c0_0), .int .i64 a0_1] 65 (0, 0))) ∧ Aside0 (Below w.heap.size w w'))
 case atStart => exact ⟨(0), rsd, H', ⟨Nat.le_refl _⟩, ⟨by (with_reducible repeat (first | refine blk_drewN ?_ _ | refine blk_drew ?_ | refine blk_alloc ?_ _)); exact BK474.out⟩, ⟨tb HB⟩⟩
 case round =>
  clear H'
  obtain ⟨x3_1, rfl, HA, HK1, BK474, HB⟩ := hrel
  cases gk with
  | zero => exact absurd HA.out (by simp [spec_RowsOk.l0])
  | succ k1 =>
   have H := HA.out
   clear HA
   simp only [spec_RowsOk.l0] at H
   revert H; refine icd (fun c3b0 H => ?_) fun c3b0 H => ?neg
   case neg =>
    by_cases c20 : (l0_0.length : Int) = 4
    case neg =>
     rw [if_neg c20] at H
     have c20b0 : ((l0_0.length : Int) == 4) = false := beq_eq_false_iff_ne.mpr c20
     have c20b1 : ((l0_0.length : Int) != 4) = true := bne_iff_ne.mpr c20
     obtain rfl := oin H
     have hz23 := cs2_ BK474
     go_wp2
     go_ret
     exact ⟨er, tb HB⟩
    rw [if_pos c20] at H
    have c20b0 : ((l0_0.length : Int) == 4) = true := beq_iff_eq.mpr c20
    have c20b1 : ((l0_0.length : Int) != 4) = false := bne_eq_false_iff_eq.mpr c20
    clear c20
    obtain ⟨t475, A21, H⟩ := bn H
    try dsimp only at H
    obtain rfl := oin H
    have hz22 := cs2_ BK474
    go_wp2_with (first | (go_at_call 79; (with_reducible refine (spec_l1In.calls a0_1 0 5 t475 _ A21.out).mono ?_); rintro e w' ⟨rfl, ⟨nd, rfl⟩⟩))
    go_ret
    exact ⟨er, tb HB⟩
   obtain ⟨c4b0, H⟩ := itd H
   by_cases c5 : (rd l0_0 x3_1) = 0
   case pos =>
    rw [if_pos c5] at H
    have c5b0 : ((rd l0_0 x3_1) == 0) = true := beq_iff_eq.mpr c5
    have c5b1 : ((rd l0_0 x3_1) != 0) = false := bne_eq_false_iff_eq.mpr c5
    clear c5
    have H' := Aside0.mk H
    clear H
    have hz6 := cs2_ BK474
    try go_wp2
    replace BK474 := bd BK474
    replace HB := Aside0.mk (below_drew1 HB.out)
    have p476 : 0 ≤ (x3_1 : Int) := od
    have q476 : x3_1 < (l0_0.length : Int) := od
    obtain ⟨ad476, e476, hx476_0⟩ := Kd.at_int HR0_0.out x3_1 p476 q476
    have hw476_0 := hx476_0
    cases e476
    replace hx476_0 := ox HB hx476_0
    replace p476 := eq_true p476
    replace q476 := eq_true q476
    refine start_ (n := 26) (S := fun w' => cS2 gb474 (.slice (some ad476) l0_0.length c0_0) (.int .i64 a0_1) w' ∧ w'.cell? (ad476.add (x3_1).toNat) = some (.int .i64 (rd l0_0 x3_1))) (ds := []) #[false, false, false, false, false, false, false, false, false, false, false, false, false, false, false, false, false, false, false, false, false, false, false, false, false, false] (by kernel_rfl) rfl rfl ⟨ds2_ BK474, ((HB.out.cell (World.block_lt_of_cell? w _ hw476_0)).trans hw476_0)⟩ (fun hHeld => ?_); refine with_tabW spec_RowsOk.tab4 spec_RowsOk.bits4 (fun HT_ HW_ => ?_)
    generalize wr.drew = w7 at BK474 HB hx476_0 hHeld ⊢
    refine pu 0 11 ?_; refine pu 2 13 ?_; refine ta 1 12 ?_; refine pu 3 14 ?_; refine ta 4 15 ?_; refine pu 5 16 ?_; refine pu 6 17 ?_; refine pn 7 18 ?_; refine pn 8 19 ?_; refine pn 9 20 ?_; refine pn 10 21 ?_; refine pn 11 22 ?_
    refine pn 12 23 ?_; refine pn 13 24 ?_; refine pn 14 25 ?_; refine pn 15 26 ?_; refine pn 16 27 ?_; refine pn 17 28 ?_; refine pn 18 29 ?_; refine pn 19 30 ?_; refine pn 20 31 ?_; refine pn 21 32 ?_; refine pn 22 33 ?_; refine pn 23 34 ?_
    refine pn 24 35 ?_; refine pu 25 36 ?_
    refine done_ (done_of HT_.out (by kernel_rfl)) ?_
    try go_wp2
    go_roundg k1
    case measure => have := HK1.out; omega
    case rel => exact ⟨(wrap64 (x3_1 + 1)), rsd, H', ⟨by have := HK1.out; omega⟩, ⟨by (with_reducible repeat (first | refine blk_drewN ?_ _ | refine blk_drew ?_ | refine blk_alloc ?_ _)); exact BK474.out⟩, ⟨tb HB⟩⟩
   rw [if_neg c5] at H
   have c5b0 : ((rd l0_0 x3_1) == 0) = false := beq_eq_false_iff_ne.mpr c5
   have c5b1 : ((rd l0_0 x3_1) != 0) = true := bne_iff_ne.mpr c5
   obtain ⟨t478, A8, H⟩ := bn H
   try dsimp only at H
   cases t478
   case false =>
    replace H := ipf H
    obtain rfl := oin H
    have hz18 := cs2_ BK474
    try go_wp2
    replace BK474 := bd BK474
    replace HB := Aside0.mk (below_drew1 HB.out)
    have p476 : 0 ≤ (x3_1 : Int) := od
    have q476 : x3_1 < (l0_0.length : Int) := od
    obtain ⟨ad476, e476, hx476_0⟩ := Kd.at_int HR0_0.out x3_1 p476 q476
    have hw476_0 := hx476_0
    cases e476
    replace hx476_0 := ox HB hx476_0
    replace p476 := eq_true p476
    replace q476 := eq_true q476
    have p477 : 0 ≤ (x3_1 : Int) := od
    have q477 : x3_1 < (l0_0.length : Int) := od
    obtain ⟨ad477, e477, hx477_0⟩ := Kd.at_int HR0_0.out x3_1 p477 q477
    have hw477_0 := hx477_0
    obtain rfl : ad476 = ad477 := (by injection e477)
    replace hx477_0 := ox HB hx477_0
    replace p477 := eq_true p477
    replace q477 := eq_true q477
    refine start_ (n := 26) (S := fun w' => cS2 gb474 (.slice (some ad476) l0_0.length c0_0) (.int .i64 a0_1) w' ∧ w'.cell? (ad476.add (x3_1).toNat) = some (.int .i64 (rd l0_0 x3_1)) ∧ w'.cell? (ad476.add (x3_1).toNat) = some (.int .i64 (rd l0_0 x3_1))) (ds := []) #[false, false, false, false, false, false, false, false, false, false, false, false, false, false, false, false, false, false, false, false, false, false, false, false, false, false] (by kernel_rfl) rfl rfl ⟨ds2_ BK474, ((HB.out.cell (World.block_lt_of_cell? w _ hw476_0)).trans hw476_0), ((HB.out.cell (World.block_lt_of_cell? w _ hw477_0)).trans hw477_0)⟩ (fun hHeld => ?_); refine with_tabW spec_RowsOk.tab4 spec_RowsOk.bits4 (fun HT_ HW_ => ?_)
    generalize wr.drew = w19 at BK474 HB hx476_0 hx477_0 hHeld ⊢
    refine pu 0 11 ?_; refine pu 2 13 ?_; refine ta 1 12 ?_; refine pu 3 14 ?_; refine ta 4 15 ?_; refine pu 5 16 ?_; refine pu 6 17 ?_; refine pu 7 18 ?_; refine pu 9 20 ?_; refine ta 8 19 ?_; refine pu 10 21 ?_; refine ta 11 22 ?_
    refine on1 12 (some 23) (fun K hK => ?_)
    refine gS Try.func125 #[.int .i64 (rd l0_0 x3_1)] ?_
    with_reducible refine (spec_ValOk.calls (rd l0_0 x3_1) false _ A8.out).mono ?_
    rintro e w' ⟨rfl, ⟨nd, rfl⟩⟩
    refine ⟨_, rfl, ?_⟩
    refine hK.out _ _ ⟨ds2_ BK474, ((HB.out.cell (World.block_lt_of_cell? w _ hw476_0)).trans hw476_0), ((HB.out.cell (World.block_lt_of_cell? w _ hw477_0)).trans hw477_0)⟩ (fun hHeld => ?_)
    clear hK K
    refine nm 23 ?_
    refine pu 13 24 ?_; refine pu 14 25 ?_; refine pn 15 26 ?_; refine pn 16 27 ?_; refine pn 17 28 ?_; refine pn 18 29 ?_; refine pn 19 30 ?_; refine pn 20 31 ?_; refine pn 21 32 ?_; refine pn 22 33 ?_; refine pn 23 34 ?_; refine pu 24 35 ?_
    refine pu 25 36 ?_
    refine done_ (done_of HT_.out (by kernel_rfl)) ?_
    try go_wp2
    go_ret
    exact ⟨er, tb HB⟩
   replace H := ipt H
   obtain ⟨t480, A10, H⟩ := bn H
   try dsimp only at H
   by_cases c11 : t480 = x3_1
   case neg =>
    rw [if_neg c11] at H
    have c11b0 : (t480 == x3_1) = false := beq_eq_false_iff_ne.mpr c11
    have c11b1 : (t480 != x3_1) = true := bne_iff_ne.mpr c11
    obtain rfl := oin H
    have hz15 := cs2_ BK474
    try go_wp2
    replace BK474 := bd BK474
    replace HB := Aside0.mk (below_drew1 HB.out)
    have p476 : 0 ≤ (x3_1 : Int) := od
    have q476 : x3_1 < (l0_0.length : Int) := od
    obtain ⟨ad476, e476, hx476_0⟩ := Kd.at_int HR0_0.out x3_1 p476 q476
    have hw476_0 := hx476_0
    cases e476
    replace hx476_0 := ox HB hx476_0
    replace p476 := eq_true p476
    replace q476 := eq_true q476
    have p477 : 0 ≤ (x3_1 : Int) := od
    have q477 : x3_1 < (l0_0.length : Int) := od
    obtain ⟨ad477, e477, hx477_0⟩ := Kd.at_int HR0_0.out x3_1 p477 q477
    have hw477_0 := hx477_0
    obtain rfl : ad476 = ad477 := (by injection e477)
    replace hx477_0 := ox HB hx477_0
    replace p477 := eq_true p477
    replace q477 := eq_true q477
    have p479 : 0 ≤ (x3_1 : Int) := od
    have q479 : x3_1 < (l0_0.length : Int) := od
    obtain ⟨ad479, e479, hx479_0⟩ := Kd.at_int HR0_0.out x3_1 p479 q479
    have hw479_0 := hx479_0
    obtain rfl : ad476 = ad479 := (by injection e479)
    replace hx479_0 := ox HB hx479_0
    replace p479 := eq_true p479
    replace q479 := eq_true q479
    refine start_ (n := 26) (S := fun w' => cS2 gb474 (.slice (some ad476) l0_0.length c0_0) (.int .i64 a0_1) w' ∧ w'.cell? (ad476.add (x3_1).toNat) = some (.int .i64 (rd l0_0 x3_1)) ∧ w'.cell? (ad476.add (x3_1).toNat) = some (.int .i64 (rd l0_0 x3_1)) ∧ w'.cell? (ad476.add (x3_1).toNat) = some (.int .i64 (rd l0_0 x3_1))) (ds := []) #[false, false, false, false, false, false, false, false, false, false, false, false, false, false, false, false, false, false, false, false, false, false, false, false, false, false] (by kernel_rfl) rfl rfl ⟨ds2_ BK474, ((HB.out.cell (World.block_lt_of_cell? w _ hw476_0)).trans hw476_0), ((HB.out.cell (World.block_lt_of_cell? w _ hw477_0)).trans hw477_0), ((HB.out.cell (World.block_lt_of_cell? w _ hw479_0)).trans hw479_0)⟩ (fun hHeld => ?_); refine with_tabW spec_RowsOk.tab4 spec_RowsOk.bits4 (fun HT_ HW_ => ?_)
    generalize wr.drew = w16 at BK474 HB hx476_0 hx477_0 hx479_0 hHeld ⊢
    refine pu 0 11 ?_; refine pu 2 13 ?_; refine ta 1 12 ?_; refine pu 3 14 ?_; refine ta 4 15 ?_; refine pu 5 16 ?_; refine pu 6 17 ?_; refine pu 7 18 ?_; refine pu 9 20 ?_; refine ta 8 19 ?_; refine pu 10 21 ?_; refine ta 11 22 ?_
    refine on1 12 (some 23) (fun K hK => ?_)
    refine gS Try.func125 #[.int .i64 (rd l0_0 x3_1)] ?_
    with_reducible refine (spec_ValOk.calls (rd l0_0 x3_1) true _ A8.out).mono ?_
    rintro e w' ⟨rfl, ⟨nd, rfl⟩⟩
    refine ⟨_, rfl, ?_⟩
    refine hK.out _ _ ⟨ds2_ BK474, ((HB.out.cell (World.block_lt_of_cell? w _ hw476_0)).trans hw476_0), ((HB.out.cell (World.block_lt_of_cell? w _ hw477_0)).trans hw477_0), ((HB.out.cell (World.block_lt_of_cell? w _ hw479_0)).trans hw479_0)⟩ (fun hHeld => ?_)
    clear hK K
    refine nm 23 ?_
    refine pu 13 24 ?_; refine pu 14 25 ?_; refine pu 16 27 ?_; refine pu 18 29 ?_; refine pu 22 33 ?_; refine ta 15 26 ?_; refine ta 17 28 ?_; refine pu 19 30 ?_; refine ta 20 31 ?_
    refine on1 21 (some 32) (fun K hK => ?_)
    refine gS Try.func165 #[.agg #[.slice (some ad476) l0_0.length c0_0, .int .i64 a0_1], .int .i64 (rd l0_0 x3_1)] ?_
    with_reducible refine (spec_KeyOf.calls k1 _ _ l0_0 a0_1 (rd l0_0 x3_1) t480 _ ?side1 ?side2 A10.out).mono ?_
    (case side1 => repeat (first | exact (Kd.C_below HR0_0.out (tb HB)) | (with_reducible refine Kd.C_alloc ?_ _) | (with_reducible refine Kd.C_drewN ?_ _) | (with_reducible refine Kd.C_drew ?_)))
    (case side2 => exact HC0_0.out)
    rintro e w17 ⟨rfl, hb⟩
    refine ⟨_, rfl, ?_⟩
    replace BK474 := bb BK474 hb
    replace HB := bs HB hb
    (try clear hb)
    (try clear hb2)
    (try clear hk)
    (try clear hi)
    refine hK.out _ _ ⟨ds2_ BK474, ((HB.out.cell (World.block_lt_of_cell? w _ hw476_0)).trans hw476_0), ((HB.out.cell (World.block_lt_of_cell? w _ hw477_0)).trans hw477_0), ((HB.out.cell (World.block_lt_of_cell? w _ hw479_0)).trans hw479_0)⟩ (fun hHeld => ?_)
    clear hK K
    refine nm 32 ?_
    refine pu 23 34 ?_; refine pu 24 35 ?_; refine pu 25 36 ?_
    refine done_ (done_of HT_.out (by kernel_rfl)) ?_
    try go_wp2
    go_ret
    exact ⟨er, tb HB⟩
   rw [if_pos c11] at H
   have c11b0 : (t480 == x3_1) = true := beq_iff_eq.mpr c11
   have c11b1 : (t480 != x3_1) = false := bne_eq_false_iff_eq.mpr c11
   clear c11
   have H' := Aside0.mk H
   clear H
   have hz12 := cs2_ BK474
   try go_wp2
   replace BK474 := bd BK474
   replace HB := Aside0.mk (below_drew1 HB.out)
   have p476 : 0 ≤ (x3_1 : Int) := od
   have q476 : x3_1 < (l0_0.length : Int) := od
   obtain ⟨ad476, e476, hx476_0⟩ := Kd.at_int HR0_0.out x3_1 p476 q476
   have hw476_0 := hx476_0
   cases e476
   replace hx476_0 := ox HB hx476_0
   replace p476 := eq_true p476
   replace q476 := eq_true q476
   have p477 : 0 ≤ (x3_1 : Int) := od
   have q477 : x3_1 < (l0_0.length : Int) := od
   obtain ⟨ad477, e477, hx477_0⟩ := Kd.at_int HR0_0.out x3_1 p477 q477
   have hw477_0 := hx477_0
   obtain rfl : ad476 = ad477 := (by injection e477)
   replace hx477_0 := ox HB hx477_0
   replace p477 := eq_true p477
   replace q477 := eq_true q477
   have p479 : 0 ≤ (x3_1 : Int) := od
   have q479 : x3_1 < (l0_0.length : Int) := od
   obtain ⟨ad479, e479, hx479_0⟩ := Kd.at_int HR0_0.out x3_1 p479 q479
   have hw479_0 := hx479_0
   obtain rfl : ad476 = ad479 := (by injection e479)
   replace hx479_0 := ox HB hx479_0
   replace p479 := eq_true p479
   replace q479 := eq_true q479
   refine start_ (n := 26) (S := fun w' => cS2 gb474 (.slice (some ad476) l0_0.length c0_0) (.int .i64 a0_1) w' ∧ w'.cell? (ad476.add (x3_1).toNat) = some (.int .i64 (rd l0_0 x3_1)) ∧ w'.cell? (ad476.add (x3_1).toNat) = some (.int .i64 (rd l0_0 x3_1)) ∧ w'.cell? (ad476.add (x3_1).toNat) = some (.int .i64 (rd l0_0 x3_1))) (ds := []) #[false, false, false, false, false, false, false, false, false, false, false, false, false, false, false, false, false, false, false, false, false, false, false, false, false, false] (by kernel_rfl) rfl rfl ⟨ds2_ BK474, ((HB.out.cell (World.block_lt_of_cell? w _ hw476_0)).trans hw476_0), ((HB.out.cell (World.block_lt_of_cell? w _ hw477_0)).trans hw477_0), ((HB.out.cell (World.block_lt_of_cell? w _ hw479_0)).trans hw479_0)⟩ (fun hHeld => ?_); refine with_tabW spec_RowsOk.tab4 spec_RowsOk.bits4 (fun HT_ HW_ => ?_)
   generalize wr.drew = w13 at BK474 HB hx476_0 hx477_0 hx479_0 hHeld ⊢
   refine pu 0 11 ?_; refine pu 2 13 ?_; refine ta 1 12 ?_; refine pu 3 14 ?_; refine ta 4 15 ?_; refine pu 5 16 ?_; refine pu 6 17 ?_; refine pu 7 18 ?_; refine pu 9 20 ?_; refine ta 8 19 ?_; refine pu 10 21 ?_; refine ta 11 22 ?_
   refine on1 12 (some 23) (fun K hK => ?_)
   refine gS Try.func125 #[.int .i64 (rd l0_0 x3_1)] ?_
   with_reducible refine (spec_ValOk.calls (rd l0_0 x3_1) true _ A8.out).mono ?_
   rintro e w' ⟨rfl, ⟨nd, rfl⟩⟩
   refine ⟨_, rfl, ?_⟩
   refine hK.out _ _ ⟨ds2_ BK474, ((HB.out.cell (World.block_lt_of_cell? w _ hw476_0)).trans hw476_0), ((HB.out.cell (World.block_lt_of_cell? w _ hw477_0)).trans hw477_0), ((HB.out.cell (World.block_lt_of_cell? w _ hw479_0)).trans hw479_0)⟩ (fun hHeld => ?_)
   clear hK K
   refine nm 23 ?_
   refine pu 13 24 ?_; refine pu 14 25 ?_; refine pu 16 27 ?_; refine pu 18 29 ?_; refine pu 22 33 ?_; refine ta 15 26 ?_; refine ta 17 28 ?_; refine pu 19 30 ?_; refine ta 20 31 ?_
   refine on1 21 (some 32) (fun K hK => ?_)
   refine gS Try.func165 #[.agg #[.slice (some ad476) l0_0.length c0_0, .int .i64 a0_1], .int .i64 (rd l0_0 x3_1)] ?_
   with_reducible refine (spec_KeyOf.calls k1 _ _ l0_0 a0_1 (rd l0_0 x3_1) t480 _ ?side1 ?side2 A10.out).mono ?_
   (case side1 => repeat (first | exact (Kd.C_below HR0_0.out (tb HB)) | (with_reducible refine Kd.C_alloc ?_ _) | (with_reducible refine Kd.C_drewN ?_ _) | (with_reducible refine Kd.C_drew ?_)))
   (case side2 => exact HC0_0.out)
   rintro e w14 ⟨rfl, hb⟩
   refine ⟨_, rfl, ?_⟩
   replace BK474 := bb BK474 hb
   replace HB := bs HB hb
   (try clear hb)
   (try clear hb2)
   (try clear hk)
   (try clear hi)
   refine hK.out _ _ ⟨ds2_ BK474, ((HB.out.cell (World.block_lt_of_cell? w _ hw476_0)).trans hw476_0), ((HB.out.cell (World.block_lt_of_cell? w _ hw477_0)).trans hw477_0), ((HB.out.cell (World.block_lt_of_cell? w _ hw479_0)).trans hw479_0)⟩ (fun hHeld => ?_)
   clear hK K
   refine nm 32 ?_
   refine pu 23 34 ?_; refine pu 24 35 ?_; refine pu 25 36 ?_
   refine done_ (done_of HT_.out (by kernel_rfl)) ?_
   try go_wp2
   go_roundg k1
   case measure => have := HK1.out; omega
   case rel => exact ⟨(wrap64 (x3_1 + 1)), rsd, H', ⟨by have := HK1.out; omega⟩, ⟨by (with_reducible repeat (first | refine blk_drewN ?_ _ | refine blk_drew ?_ | refine blk_alloc ?_ _)); exact BK474.out⟩, ⟨tb HB⟩⟩
def spec_ClassOf.f (a0 : Int) : Option (Int) := (spec_ValOk.f a0).bind fun t486 => (if t486 = true then (some (Int.tmod a0 3)) else (some (-1)))
set_option maxHeartbeats 8000000 in
set_option maxRecDepth 100000 in
theorem spec_ClassOf.calls (a0 : Int) (r : Int) (w : World) (h : spec_ClassOf.f a0 = some r) :
  Calls Try.prog 193 #[.int .i64 a0] w fun e w' => e = .returned (.int .i64 r) ∧ Drawn0 w w' := by
 have H := h
 clear h
 unfold spec_ClassOf.f at H
 obtain ⟨t486, A2, H⟩ := bn H
 try dsimp only at H
 cases t486
 case true =>
  replace H := ipt H
  obtain rfl := oin H
  go_enter Try.func193, Try.ntmps193
  go_wp2_with (first | ((with_reducible refine gf 125 rfl ?_); refine gL 4 Try.func125 #[.int .i64 a0] ?_; (with_reducible refine (spec_ValOk.calls a0 true _ A2.out).mono ?_); rintro e w' ⟨rfl, ⟨nd, rfl⟩⟩; refine ⟨_, rfl, ?_⟩))
  go_ret
  exact ⟨rsd, by repeat (first | exact Drawn0.refl _ | apply Drawn0.step)⟩
 replace H := ipf H
 obtain rfl := oin H
 go_enter Try.func193, Try.ntmps193
 go_wp2_with (first | ((with_reducible refine gf 125 rfl ?_); refine gL 4 Try.func125 #[.int .i64 a0] ?_; (with_reducible refine (spec_ValOk.calls a0 false _ A2.out).mono ?_); rintro e w' ⟨rfl, ⟨nd, rfl⟩⟩; refine ⟨_, rfl, ?_⟩))
 go_ret
 exact ⟨rsd, by repeat (first | exact Drawn0.refl _ | apply Drawn0.step)⟩
def spec_RowAt.f (a0 : Int) : Option (Int) := (spec_KeyOk.f a0).bind fun t1004 => (if t1004 = true then (some a0) else (some (-1)))
set_option maxHeartbeats 8000000 in
set_option maxRecDepth 100000 in
theorem spec_RowAt.calls (a0 : Int) (r : Int) (w : World) (h : spec_RowAt.f a0 = some r) :
  Calls Try.prog 168 #[.int .i64 a0] w fun e w' => e = .returned (.int .i64 r) ∧ Drawn0 w w' := by
 have H := h
 clear h
 unfold spec_RowAt.f at H
 obtain ⟨t1004, A2, H⟩ := bn H
 try dsimp only at H
 cases t1004
 case true =>
  replace H := ipt H
  obtain rfl := oin H
  go_enter Try.func168, Try.ntmps168
  go_wp2_with (first | ((with_reducible refine gf 123 rfl ?_); refine gL 4 Try.func123 #[.int .i64 a0] ?_; (with_reducible refine (spec_KeyOk.calls a0 true _ A2.out).mono ?_); rintro e w' ⟨rfl, ⟨nd, rfl⟩⟩; refine ⟨_, rfl, ?_⟩))
  go_ret
  exact ⟨rsd, by repeat (first | exact Drawn0.refl _ | apply Drawn0.step)⟩
 replace H := ipf H
 obtain rfl := oin H
 go_enter Try.func168, Try.ntmps168
 go_wp2_with (first | ((with_reducible refine gf 123 rfl ?_); refine gL 4 Try.func123 #[.int .i64 a0] ?_; (with_reducible refine (spec_KeyOk.calls a0 false _ A2.out).mono ?_); rintro e w' ⟨rfl, ⟨nd, rfl⟩⟩; refine ⟨_, rfl, ?_⟩))
 go_ret
 exact ⟨rsd, by repeat (first | exact Drawn0.refl _ | apply Drawn0.step)⟩
def spec_OwnerAt.f (a0 : Int) : Option (Int) := (spec_ValOk.f a0).bind fun t1005 => (if t1005 = true then (some (wrap64 (3 + a0))) else (some (-1)))
set_option maxHeartbeats 8000000 in
set_option maxRecDepth 100000 in
theorem spec_OwnerAt.calls (a0 : Int) (r : Int) (w : World) (h : spec_OwnerAt.f a0 = some r) :
  Calls Try.prog 169 #[.int .i64 a0] w fun e w' => e = .returned (.int .i64 r) ∧ Drawn0 w w' := by
 have H := h
 clear h
 unfold spec_OwnerAt.f at H
 obtain ⟨t1005, A2, H⟩ := bn H
 try dsimp only at H
 cases t1005
 case true =>
  replace H := ipt H
  obtain rfl := oin H
  go_enter Try.func169, Try.ntmps169
  go_wp2_with (first | ((with_reducible refine gf 125 rfl ?_); refine gL 4 Try.func125 #[.int .i64 a0] ?_; (with_reducible refine (spec_ValOk.calls a0 true _ A2.out).mono ?_); rintro e w' ⟨rfl, ⟨nd, rfl⟩⟩; refine ⟨_, rfl, ?_⟩))
  go_ret
  exact ⟨rsd, by repeat (first | exact Drawn0.refl _ | apply Drawn0.step)⟩
 replace H := ipf H
 obtain rfl := oin H
 go_enter Try.func169, Try.ntmps169
 go_wp2_with (first | ((with_reducible refine gf 125 rfl ?_); refine gL 4 Try.func125 #[.int .i64 a0] ?_; (with_reducible refine (spec_ValOk.calls a0 false _ A2.out).mono ?_); rintro e w' ⟨rfl, ⟨nd, rfl⟩⟩; refine ⟨_, rfl, ?_⟩))
 go_ret
 exact ⟨rsd, by repeat (first | exact Drawn0.refl _ | apply Drawn0.step)⟩
def spec_ViaAt.f (a0 : Int) : Option (Int) := (spec_ValOk.f a0).bind fun t1006 => (if t1006 = true then ((spec_StateAt.f).bind fun t1007 => (some (wrap64 (t1007 + a0)))) else (some (-1)))
set_option maxHeartbeats 8000000 in
set_option maxRecDepth 100000 in
theorem spec_ViaAt.calls (a0 : Int) (r : Int) (w : World) (h : spec_ViaAt.f a0 = some r) :
  Calls Try.prog 170 #[.int .i64 a0] w fun e w' => e = .returned (.int .i64 r) ∧ Drawn0 w w' := by
 have H := h
 clear h
 unfold spec_ViaAt.f at H
 obtain ⟨t1006, A2, H⟩ := bn H
 try dsimp only at H
 cases t1006
 case true =>
  replace H := ipt H
  obtain ⟨t1007, A4, H⟩ := bn H
  try dsimp only at H
  obtain rfl := oin H
  go_enter Try.func170, Try.ntmps170
  go_wp2_with (first | ((with_reducible refine gf 125 rfl ?_); refine gL 4 Try.func125 #[.int .i64 a0] ?_; (with_reducible refine (spec_ValOk.calls a0 true _ A2.out).mono ?_); rintro e w' ⟨rfl, ⟨nd, rfl⟩⟩; refine ⟨_, rfl, ?_⟩) | ((with_reducible refine gf 172 rfl ?_); refine gL 6 Try.func172 #[] ?_; (with_reducible refine (spec_StateAt.calls  t1007 _ A4.out).mono ?_); rintro e w' ⟨rfl, ⟨nd, rfl⟩⟩; refine ⟨_, rfl, ?_⟩))
  go_ret
  exact ⟨rsd, by repeat (first | exact Drawn0.refl _ | apply Drawn0.step)⟩
 replace H := ipf H
 obtain rfl := oin H
 go_enter Try.func170, Try.ntmps170
 go_wp2_with (first | ((with_reducible refine gf 125 rfl ?_); refine gL 4 Try.func125 #[.int .i64 a0] ?_; (with_reducible refine (spec_ValOk.calls a0 false _ A2.out).mono ?_); rintro e w' ⟨rfl, ⟨nd, rfl⟩⟩; refine ⟨_, rfl, ?_⟩))
 go_ret
 exact ⟨rsd, by repeat (first | exact Drawn0.refl _ | apply Drawn0.step)⟩
mutual
def spec_OpOk.j0 : Nat → Bool → Int → Int → Int → Option (Bool)
 | 0, _, _, _, _ => none
 | k + 1, x3, x147000, x147001, x147002 => if x147000 = 6 then ((spec_l1In.f x147001 0 2).bind fun t150 => (spec_OpOk.j1 k t150 x147000 x147001 x147002)) else (spec_OpOk.j1 k x3 x147000 x147001 x147002)
def spec_OpOk.j1 : Nat → Bool → Int → Int → Int → Option (Bool)
 | 0, _, _, _, _ => none
 | k + 1, x3, x147000, x147001, x147002 => (spec_l4Val.f x147000).bind fun t151 => (if t151 = true then (if x3 = true then ((spec_ValOk.f x147002).bind fun t152 => (some t152)) else (some false)) else (if x3 = true then (some (x147002 == 0)) else (some false)))
end
def spec_OpOk.f (k : Nat) (a0_0 : Int) (a0_1 : Int) (a0_2 : Int) : Option (Bool) := (spec_l1In.f a0_0 1 10).bind fun t147 => (if t147 = true then ((spec_l4Key.f a0_0).bind fun t148 => (if t148 = true then ((spec_KeyOk.f a0_1).bind fun t149 => (spec_OpOk.j0 k t149 a0_0 a0_1 a0_2)) else (spec_OpOk.j0 k (a0_1 == 0) a0_0 a0_1 a0_2))) else (some false))
set_option maxHeartbeats 8000000 in
set_option maxRecDepth 100000 in
theorem spec_OpOk.calls (k : Nat) (a0_0 : Int) (a0_1 : Int) (a0_2 : Int) (r : Bool) (w : World) (h : spec_OpOk.f k a0_0 a0_1 a0_2 = some r) :
  Calls Try.prog 54 #[.agg #[.int .i64 a0_0, .int .i64 a0_1, .int .i64 a0_2]] w fun e w' => e = .returned (.bool r) ∧ Below w.heap.size w w' := by
 have hu68 := Try.underlying68
 have HB := Aside0.mk (Below.refl w.heap.size w)
 have H := h
 clear h
 unfold spec_OpOk.f at H
 obtain ⟨t147, A2, H⟩ := bn H
 try dsimp only at H
 cases t147
 case false =>
  replace H := ipf H
  obtain rfl := oin H
  go_enter Try.func54, Try.ntmps54
  go_wp2_with (first | ((with_reducible refine gq 1 rfl ?_); refine bx0 HB (N := 1) (t := 68) ?_; clear HB; intro gb146 w25 BK146 GE146 HB; have hz26 := cs3_ BK146) | ((with_reducible refine gf 79 rfl ?_); refine gL 6 Try.func79 #[.int .i64 a0_0, .int .i64 1, .int .i64 10] ?_; (with_reducible refine (spec_l1In.calls a0_0 1 10 false _ A2.out).mono ?_); rintro e w' ⟨rfl, ⟨nd, rfl⟩⟩; refine ⟨_, rfl, ?_⟩))
  go_ret
  exact ⟨er, tb HB⟩
 replace H := ipt H
 obtain ⟨t148, A4, H⟩ := bn H
 try dsimp only at H
 have HC5 := Aside0.mk H
 clear H
 go_enter Try.func54, Try.ntmps54
 go_upto_if 13 with (first | ((with_reducible refine gq 1 rfl ?_); refine bx0 HB (N := 1) (t := 68) ?_; clear HB; intro gb146 w6 BK146 GE146 HB; have hz7 := cs3_ BK146) | ((with_reducible refine gf 79 rfl ?_); refine gL 6 Try.func79 #[.int .i64 a0_0, .int .i64 1, .int .i64 10] ?_; (with_reducible refine (spec_l1In.calls a0_0 1 10 true _ A2.out).mono ?_); rintro e w' ⟨rfl, ⟨nd, rfl⟩⟩; refine ⟨_, rfl, ?_⟩) | ((with_reducible refine gf 122 rfl ?_); refine gL 13 Try.func122 #[.int .i64 a0_0] ?_; (with_reducible refine (spec_l4Key.calls a0_0 t148 _ A4.out).mono ?_); rintro e w' ⟨rfl, ⟨nd, rfl⟩⟩; refine ⟨_, rfl, ?_⟩))
 (try simp only [Act.put, sA, sB, sC])
 go_cut [3] (fun v3 wc => ∃ (kq : Nat) (x3_4 : Bool), v3 = .bool x3_4 ∧ Aside0 (spec_OpOk.j0 kq x3_4 a0_0 a0_1 a0_2 = some r) ∧ Aside0 (kq ≤ k) ∧ Aside0 (wc.heap[gb146]? = some (.cells #[.int .i64 a0_0, .int .i64 a0_1, .int .i64 a0_2] 68 (0, 0))) ∧ Aside0 (Below w.heap.size w wc))
 case first =>
  have H := HC5.out
  clear HC5
  cases t148
  case false =>
   replace H := ipf H
   have H' := Aside0.mk H
   clear H
   go_wp2
   go_meet
   case rel => exact ⟨_, ((a0_1 == 0)), rsd, H', ⟨by first | omega | exact Nat.le_refl _⟩, ⟨by (with_reducible repeat (first | refine blk_drewN ?_ _ | refine blk_drew ?_ | refine blk_alloc ?_ _)); exact BK146.out⟩, ⟨tb HB⟩⟩
  replace H := ipt H
  obtain ⟨t149, A9, H⟩ := bn H
  try dsimp only at H
  have H' := Aside0.mk H
  clear H
  have hz10 := cs3_ BK146
  go_wp2_with (first | ((with_reducible refine gf 123 rfl ?_); refine gL 16 Try.func123 #[.int .i64 a0_1] ?_; (with_reducible refine (spec_KeyOk.calls a0_1 t149 _ A9.out).mono ?_); rintro e w' ⟨rfl, ⟨nd, rfl⟩⟩; refine ⟨_, rfl, ?_⟩))
  go_meet
  case rel => exact ⟨_, (t149), rsd, H', ⟨by first | omega | exact Nat.le_refl _⟩, ⟨by (with_reducible repeat (first | refine blk_drewN ?_ _ | refine blk_drew ?_ | refine blk_alloc ?_ _)); exact BK146.out⟩, ⟨tb HB⟩⟩
 case rest =>
  clear HC5
  obtain ⟨kq, x3_4, rfl, HA, HJ4, BK146, HB⟩ := hcut
  cases kq with
  | zero => exact absurd HA.out (by simp [spec_OpOk.j0])
  | succ kj4 =>
   have H := HA.out
   clear HA
   simp only [spec_OpOk.j0] at H
   have HC11 := Aside0.mk H
   clear H
   have hz12 := cs3_ BK146
   go_upto_if 19 with (fail)
   go_cut [3] (fun v3 wc => ∃ (kq : Nat) (x3_10 : Bool), v3 = .bool x3_10 ∧ Aside0 (spec_OpOk.j1 kq x3_10 a0_0 a0_1 a0_2 = some r) ∧ Aside0 (kq ≤ kj4) ∧ Aside0 (wc.heap[gb146]? = some (.cells #[.int .i64 a0_0, .int .i64 a0_1, .int .i64 a0_2] 68 (0, 0))) ∧ Aside0 (Below w.heap.size w wc))
   case first =>
    have H := HC11.out
    clear HC11
    by_cases c13 : a0_0 = 6
    case neg =>
     rw [if_neg c13] at H
     have c13b0 : (a0_0 == 6) = false := beq_eq_false_iff_ne.mpr c13
     have c13b1 : (a0_0 != 6) = true := bne_iff_ne.mpr c13
     (first | rw [c13b0] | (simp only [i64_w, i32_w]; rw [c13b0]) | skip)
     have H' := Aside0.mk H
     clear H
     go_wp2
     go_meet
     case rel => exact ⟨_, (x3_4), rsd, H', ⟨by have := HJ4.out; first | omega | exact Nat.le_refl _⟩, ⟨by (with_reducible repeat (first | refine blk_drewN ?_ _ | refine blk_drew ?_ | refine blk_alloc ?_ _)); exact BK146.out⟩, ⟨tb HB⟩⟩
    rw [if_pos c13] at H
    have c13b0 : (a0_0 == 6) = true := beq_iff_eq.mpr c13
    have c13b1 : (a0_0 != 6) = false := bne_eq_false_iff_eq.mpr c13
    clear c13
    (first | rw [c13b0] | (simp only [i64_w, i32_w]; rw [c13b0]) | skip)
    obtain ⟨t150, A14, H⟩ := bn H
    try dsimp only at H
    have H' := Aside0.mk H
    clear H
    have hz15 := cs3_ BK146
    go_wp2_with (first | ((with_reducible refine gf 79 rfl ?_); refine gL 22 Try.func79 #[.int .i64 a0_1, .int .i64 0, .int .i64 2] ?_; (with_reducible refine (spec_l1In.calls a0_1 0 2 t150 _ A14.out).mono ?_); rintro e w' ⟨rfl, ⟨nd, rfl⟩⟩; refine ⟨_, rfl, ?_⟩))
    go_meet
    case rel => exact ⟨_, (t150), rsd, H', ⟨by have := HJ4.out; first | omega | exact Nat.le_refl _⟩, ⟨by (with_reducible repeat (first | refine blk_drewN ?_ _ | refine blk_drew ?_ | refine blk_alloc ?_ _)); exact BK146.out⟩, ⟨tb HB⟩⟩
   case rest =>
    clear HC11
    obtain ⟨kq, x3_10, rfl, HA, HJ10, BK146, HB⟩ := hcut
    cases kq with
    | zero => exact absurd HA.out (by simp [spec_OpOk.j1])
    | succ kj10 =>
     have H := HA.out
     clear HA
     simp only [spec_OpOk.j1] at H
     obtain ⟨t151, A16, H⟩ := bn H
     try dsimp only at H
     cases t151
     case false =>
      replace H := ipf H
      cases x3_10
      case true =>
       replace H := ipt H
       obtain rfl := oin H
       have hz23 := cs3_ BK146
       go_wp2_with (first | ((with_reducible refine gf 124 rfl ?_); refine gL 25 Try.func124 #[.int .i64 a0_0] ?_; (with_reducible refine (spec_l4Val.calls a0_0 false _ A16.out).mono ?_); rintro e w' ⟨rfl, ⟨nd, rfl⟩⟩; refine ⟨_, rfl, ?_⟩))
       go_ret
       exact ⟨er, tb HB⟩
      replace H := ipf H
      obtain rfl := oin H
      have hz24 := cs3_ BK146
      go_wp2_with (first | ((with_reducible refine gf 124 rfl ?_); refine gL 25 Try.func124 #[.int .i64 a0_0] ?_; (with_reducible refine (spec_l4Val.calls a0_0 false _ A16.out).mono ?_); rintro e w' ⟨rfl, ⟨nd, rfl⟩⟩; refine ⟨_, rfl, ?_⟩))
      go_ret
      exact ⟨er, tb HB⟩
     replace H := ipt H
     cases x3_10
     case false =>
      replace H := ipf H
      obtain rfl := oin H
      have hz21 := cs3_ BK146
      go_wp2_with (first | ((with_reducible refine gf 124 rfl ?_); refine gL 25 Try.func124 #[.int .i64 a0_0] ?_; (with_reducible refine (spec_l4Val.calls a0_0 true _ A16.out).mono ?_); rintro e w' ⟨rfl, ⟨nd, rfl⟩⟩; refine ⟨_, rfl, ?_⟩))
      go_ret
      exact ⟨er, tb HB⟩
     replace H := ipt H
     obtain ⟨t152, A19, H⟩ := bn H
     try dsimp only at H
     obtain rfl := oin H
     have hz20 := cs3_ BK146
     go_wp2_with (first | ((with_reducible refine gf 124 rfl ?_); refine gL 25 Try.func124 #[.int .i64 a0_0] ?_; (with_reducible refine (spec_l4Val.calls a0_0 true _ A16.out).mono ?_); rintro e w' ⟨rfl, ⟨nd, rfl⟩⟩; refine ⟨_, rfl, ?_⟩) | (go_at_call 125; (with_reducible refine (spec_ValOk.calls a0_2 t152 _ A19.out).mono ?_); rintro e w' ⟨rfl, ⟨nd, rfl⟩⟩))
     go_ret
     exact ⟨er, tb HB⟩
mutual
def impl_OpOk.j0 : Nat → Int → Bool → Int → Int → Int → Option (Bool)
 | 0, _, _, _, _, _ => none
 | k + 1, x4, x5, x215000, x215001, x215002 => if x5 = true then ((impl_KeyOk.f x215001).bind fun t215 => (if t215 = true then ((impl_ValOk.f x215002).bind fun t216 => (some t216)) else (some false))) else (if x4 = 3 then (impl_OpOk.j1 k x4 (x4 == 3) x215000 x215001 x215002) else (impl_OpOk.j1 k x4 (x4 == 4) x215000 x215001 x215002))
def impl_OpOk.j1 : Nat → Int → Bool → Int → Int → Int → Option (Bool)
 | 0, _, _, _, _, _ => none
 | k + 1, x4, x16, x215000, x215001, x215002 => if x16 = true then ((impl_KeyOk.f x215001).bind fun t217 => (if t217 = true then (some (x215002 == 0)) else (some false))) else (if x4 = 5 then (impl_OpOk.j2 k x4 (x4 == 5) x215000 x215001 x215002) else (impl_OpOk.j2 k x4 (x4 == 10) x215000 x215001 x215002))
def impl_OpOk.j2 : Nat → Int → Bool → Int → Int → Int → Option (Bool)
 | 0, _, _, _, _, _ => none
 | k + 1, x4, x27, x215000, x215001, x215002 => if x27 = true then (if x215001 = 0 then ((impl_ValOk.f x215002).bind fun t218 => (some t218)) else (some false)) else (if x4 = 6 then ((impl_isClass.f x215001).bind fun t219 => (if t219 = true then (some (x215002 == 0)) else (some false))) else (if x4 = 7 then (if x215001 = 0 then (some (x215002 == 0)) else (some false)) else (if x4 = 8 then (if x215001 = 0 then (some (x215002 == 0)) else (some false)) else (if x4 = 9 then (if x215001 = 0 then (some (x215002 == 0)) else (some false)) else (some false)))))
end
def impl_OpOk.f (k : Nat) (a0_0 : Int) (a0_1 : Int) (a0_2 : Int) : Option (Bool) := if a0_0 = 1 then (impl_OpOk.j0 k a0_0 (a0_0 == 1) a0_0 a0_1 a0_2) else (impl_OpOk.j0 k a0_0 (a0_0 == 2) a0_0 a0_1 a0_2)
theorem impl_OpOk.mono_l : ∀ k, (∀ y0 y1 y2 y3 y4, LeO (impl_OpOk.j0 k y0 y1 y2 y3 y4) (impl_OpOk.j0 (k + 1) y0 y1 y2 y3 y4)) ∧ (∀ y0 y1 y2 y3 y4, LeO (impl_OpOk.j1 k y0 y1 y2 y3 y4) (impl_OpOk.j1 (k + 1) y0 y1 y2 y3 y4)) ∧ (∀ y0 y1 y2 y3 y4, LeO (impl_OpOk.j2 k y0 y1 y2 y3 y4) (impl_OpOk.j2 (k + 1) y0 y1 y2 y3 y4))
 | 0 => ⟨fun _ _ _ _ _ r h => by simp [impl_OpOk.j0] at h, fun _ _ _ _ _ r h => by simp [impl_OpOk.j1] at h, fun _ _ _ _ _ r h => by simp [impl_OpOk.j2] at h⟩
 | k + 1 => by
  obtain ⟨ih0, ih1, ih2⟩ := impl_OpOk.mono_l k
  refine ⟨?_, ?_, ?_⟩
  ·intro y0 y1 y2 y3 y4
   unfold impl_OpOk.j0
   repeat' first
   | (with_reducible exact ih0 _ _ _ _ _)
   | (with_reducible exact ih1 _ _ _ _ _)
   | (with_reducible exact ih2 _ _ _ _ _)
   | (with_reducible exact LeO.refl _)
   | (with_reducible exact LeO.none _)
   | (with_reducible refine LeO.ite ?_ ?_)
   | (with_reducible refine LeO.bind ?_ (fun _ => ?_))
   | exact ih0 _ _ _ _ _
   | exact ih1 _ _ _ _ _
   | exact ih2 _ _ _ _ _
   | exact LeO.none _
   | refine LeO.ite ?_ ?_
   | refine LeO.bind ?_ (fun _ => ?_)
  ·intro y0 y1 y2 y3 y4
   unfold impl_OpOk.j1
   repeat' first
   | (with_reducible exact ih0 _ _ _ _ _)
   | (with_reducible exact ih1 _ _ _ _ _)
   | (with_reducible exact ih2 _ _ _ _ _)
   | (with_reducible exact LeO.refl _)
   | (with_reducible exact LeO.none _)
   | (with_reducible refine LeO.ite ?_ ?_)
   | (with_reducible refine LeO.bind ?_ (fun _ => ?_))
   | exact ih0 _ _ _ _ _
   | exact ih1 _ _ _ _ _
   | exact ih2 _ _ _ _ _
   | exact LeO.none _
   | refine LeO.ite ?_ ?_
   | refine LeO.bind ?_ (fun _ => ?_)
  ·intro y0 y1 y2 y3 y4
   unfold impl_OpOk.j2
   repeat' first
   | (with_reducible exact ih0 _ _ _ _ _)
   | (with_reducible exact ih1 _ _ _ _ _)
   | (with_reducible exact ih2 _ _ _ _ _)
   | (with_reducible exact LeO.refl _)
   | (with_reducible exact LeO.none _)
   | (with_reducible refine LeO.ite ?_ ?_)
   | (with_reducible refine LeO.bind ?_ (fun _ => ?_))
   | exact ih0 _ _ _ _ _
   | exact ih1 _ _ _ _ _
   | exact ih2 _ _ _ _ _
   | exact LeO.none _
   | refine LeO.ite ?_ ?_
   | refine LeO.bind ?_ (fun _ => ?_)
theorem impl_OpOk.mono : ∀ a0 a1 a2 k, LeO (impl_OpOk.f k a0 a1 a2) (impl_OpOk.f (k + 1) a0 a1 a2) := by
 intro a0 a1 a2 k
 obtain ⟨ih0, ih1, ih2⟩ := impl_OpOk.mono_l k
 unfold impl_OpOk.f
 repeat' first
   | (with_reducible exact ih0 _ _ _ _ _)
   | (with_reducible exact ih1 _ _ _ _ _)
   | (with_reducible exact ih2 _ _ _ _ _)
   | (with_reducible exact LeO.refl _)
   | (with_reducible exact LeO.none _)
   | (with_reducible refine LeO.ite ?_ ?_)
   | (with_reducible refine LeO.bind ?_ (fun _ => ?_))
   | exact ih0 _ _ _ _ _
   | exact ih1 _ _ _ _ _
   | exact ih2 _ _ _ _ _
   | exact LeO.none _
   | refine LeO.ite ?_ ?_
   | refine LeO.bind ?_ (fun _ => ?_)
set_option maxHeartbeats 8000000 in
set_option maxRecDepth 100000 in
theorem impl_OpOk.calls (k : Nat) (a0_0 : Int) (a0_1 : Int) (a0_2 : Int) (r : Bool) (w : World) (h : impl_OpOk.f k a0_0 a0_1 a0_2 = some r) :
  Calls Try.prog 53 #[.agg #[.int .i64 a0_0, .int .i64 a0_1, .int .i64 a0_2]] w fun e w' => e = .returned (.bool r) ∧ Below w.heap.size w w' := by
 have hu68 := Try.underlying68
 have HB := Aside0.mk (Below.refl w.heap.size w)
 have H := h
 clear h
 unfold impl_OpOk.f at H
 have HC2 := Aside0.mk H
 clear H
 go_enter Try.func53, Try.ntmps53
 go_upto_if 5 with (first | ((with_reducible refine gq 1 rfl ?_); refine bx0 HB (N := 1) (t := 68) ?_; clear HB; intro gb214 w3 BK214 GE214 HB; have hz4 := cs3_ BK214))
 (try simp only [Act.put, sA, sB, sC])
 go_cut [5] (fun v5 wc => ∃ (kq : Nat) (x5_1 : Bool), v5 = .bool x5_1 ∧ Aside0 (impl_OpOk.j0 kq a0_0 x5_1 a0_0 a0_1 a0_2 = some r) ∧ Aside0 (kq ≤ k) ∧ Aside0 (wc.heap[gb214]? = some (.cells #[.int .i64 a0_0, .int .i64 a0_1, .int .i64 a0_2] 68 (0, 0))) ∧ Aside0 (Below w.heap.size w wc))
 case first =>
  have H := HC2.out
  clear HC2
  by_cases c5 : a0_0 = 1
  case neg =>
   rw [if_neg c5] at H
   have c5b0 : (a0_0 == 1) = false := beq_eq_false_iff_ne.mpr c5
   have c5b1 : (a0_0 != 1) = true := bne_iff_ne.mpr c5
   (first | rw [c5b0] | (simp only [i64_w, i32_w]; rw [c5b0]) | skip)
   have H' := Aside0.mk H
   clear H
   go_wp2
   go_meet
   case rel => exact ⟨_, ((a0_0 == 2)), rsd, H', ⟨by first | omega | exact Nat.le_refl _⟩, ⟨by (with_reducible repeat (first | refine blk_drewN ?_ _ | refine blk_drew ?_ | refine blk_alloc ?_ _)); exact BK214.out⟩, ⟨tb HB⟩⟩
  rw [if_pos c5] at H
  have c5b0 : (a0_0 == 1) = true := beq_iff_eq.mpr c5
  have c5b1 : (a0_0 != 1) = false := bne_eq_false_iff_eq.mpr c5
  clear c5
  (first | rw [c5b0] | (simp only [i64_w, i32_w]; rw [c5b0]) | skip)
  have H' := Aside0.mk H
  clear H
  go_wp2
  go_meet
  case rel => exact ⟨_, ((a0_0 == 1)), rsd, H', ⟨by first | omega | exact Nat.le_refl _⟩, ⟨by (with_reducible repeat (first | refine blk_drewN ?_ _ | refine blk_drew ?_ | refine blk_alloc ?_ _)); exact BK214.out⟩, ⟨tb HB⟩⟩
 case rest =>
  clear HC2
  obtain ⟨kq, x5_1, rfl, HA, HJ1, BK214, HB⟩ := hcut
  cases kq with
  | zero => exact absurd HA.out (by simp [impl_OpOk.j0])
  | succ kj1 =>
   have H := HA.out
   clear HA
   simp only [impl_OpOk.j0] at H
   cases x5_1
   case true =>
    replace H := ipt H
    obtain ⟨t215, A7, H⟩ := bn H
    try dsimp only at H
    cases t215
    case false =>
     replace H := ipf H
     obtain rfl := oin H
     have hz11 := cs3_ BK214
     go_wp2_with (first | ((with_reducible refine gf 119 rfl ?_); refine gL 10 Try.func119 #[.int .i64 a0_1] ?_; (with_reducible refine (impl_KeyOk.calls a0_1 false _ A7.out).mono ?_); rintro e w' ⟨rfl, ⟨nd, rfl⟩⟩; refine ⟨_, rfl, ?_⟩))
     go_ret
     exact ⟨er, tb HB⟩
    replace H := ipt H
    obtain ⟨t216, A9, H⟩ := bn H
    try dsimp only at H
    obtain rfl := oin H
    have hz10 := cs3_ BK214
    go_wp2_with (first | ((with_reducible refine gf 119 rfl ?_); refine gL 10 Try.func119 #[.int .i64 a0_1] ?_; (with_reducible refine (impl_KeyOk.calls a0_1 true _ A7.out).mono ?_); rintro e w' ⟨rfl, ⟨nd, rfl⟩⟩; refine ⟨_, rfl, ?_⟩) | (go_at_call 120; (with_reducible refine (impl_ValOk.calls a0_2 t216 _ A9.out).mono ?_); rintro e w' ⟨rfl, ⟨nd, rfl⟩⟩))
    go_ret
    exact ⟨er, tb HB⟩
   replace H := ipf H
   have HC12 := Aside0.mk H
   clear H
   go_upto_if 16 with (fail)
   go_cut [16] (fun v16 wc => ∃ (kq : Nat) (x16_11 : Bool), v16 = .bool x16_11 ∧ Aside0 (impl_OpOk.j1 kq a0_0 x16_11 a0_0 a0_1 a0_2 = some r) ∧ Aside0 (kq ≤ kj1) ∧ Aside0 (wc.heap[gb214]? = some (.cells #[.int .i64 a0_0, .int .i64 a0_1, .int .i64 a0_2] 68 (0, 0))) ∧ Aside0 (Below w.heap.size w wc))
   case first =>
    have H := HC12.out
    clear HC12
    by_cases c13 : a0_0 = 3
    case neg =>
     rw [if_neg c13] at H
     have c13b0 : (a0_0 == 3) = false := beq_eq_false_iff_ne.mpr c13
     have c13b1 : (a0_0 != 3) = true := bne_iff_ne.mpr c13
     (first | rw [c13b0] | (simp only [i64_w, i32_w]; rw [c13b0]) | skip)
     have H' := Aside0.mk H
     clear H
     go_wp2
     go_meet
     case rel => exact ⟨_, ((a0_0 == 4)), rsd, H', ⟨by have := HJ1.out; first | omega | exact Nat.le_refl _⟩, ⟨by (with_reducible repeat (first | refine blk_drewN ?_ _ | refine blk_drew ?_ | refine blk_alloc ?_ _)); exact BK214.out⟩, ⟨tb HB⟩⟩
    rw [if_pos c13] at H
    have c13b0 : (a0_0 == 3) = true := beq_iff_eq.mpr c13
    have c13b1 : (a0_0 != 3) = false := bne_eq_false_iff_eq.mpr c13
    clear c13
    (first | rw [c13b0] | (simp only [i64_w, i32_w]; rw [c13b0]) | skip)
    have H' := Aside0.mk H
    clear H
    go_wp2
    go_meet
    case rel => exact ⟨_, ((a0_0 == 3)), rsd, H', ⟨by have := HJ1.out; first | omega | exact Nat.le_refl _⟩, ⟨by (with_reducible repeat (first | refine blk_drewN ?_ _ | refine blk_drew ?_ | refine blk_alloc ?_ _)); exact BK214.out⟩, ⟨tb HB⟩⟩
   case rest =>
    clear HC12
    obtain ⟨kq, x16_11, rfl, HA, HJ11, BK214, HB⟩ := hcut
    cases kq with
    | zero => exact absurd HA.out (by simp [impl_OpOk.j1])
    | succ kj11 =>
     have H := HA.out
     clear HA
     simp only [impl_OpOk.j1] at H
     cases x16_11
     case true =>
      replace H := ipt H
      obtain ⟨t217, A15, H⟩ := bn H
      try dsimp only at H
      cases t217
      case true =>
       replace H := ipt H
       obtain rfl := oin H
       have hz17 := cs3_ BK214
       go_wp2_with (first | ((with_reducible refine gf 119 rfl ?_); refine gL 21 Try.func119 #[.int .i64 a0_1] ?_; (with_reducible refine (impl_KeyOk.calls a0_1 true _ A15.out).mono ?_); rintro e w' ⟨rfl, ⟨nd, rfl⟩⟩; refine ⟨_, rfl, ?_⟩))
       go_ret
       exact ⟨er, tb HB⟩
      replace H := ipf H
      obtain rfl := oin H
      have hz18 := cs3_ BK214
      go_wp2_with (first | ((with_reducible refine gf 119 rfl ?_); refine gL 21 Try.func119 #[.int .i64 a0_1] ?_; (with_reducible refine (impl_KeyOk.calls a0_1 false _ A15.out).mono ?_); rintro e w' ⟨rfl, ⟨nd, rfl⟩⟩; refine ⟨_, rfl, ?_⟩))
      go_ret
      exact ⟨er, tb HB⟩
     replace H := ipf H
     have HC19 := Aside0.mk H
     clear H
     go_upto_if 27 with (fail)
     go_cut [27] (fun v27 wc => ∃ (kq : Nat) (x27_18 : Bool), v27 = .bool x27_18 ∧ Aside0 (impl_OpOk.j2 kq a0_0 x27_18 a0_0 a0_1 a0_2 = some r) ∧ Aside0 (kq ≤ kj11) ∧ Aside0 (wc.heap[gb214]? = some (.cells #[.int .i64 a0_0, .int .i64 a0_1, .int .i64 a0_2] 68 (0, 0))) ∧ Aside0 (Below w.heap.size w wc))
     case first =>
      have H := HC19.out
      clear HC19
      by_cases c20 : a0_0 = 5
      case neg =>
       rw [if_neg c20] at H
       have c20b0 : (a0_0 == 5) = false := beq_eq_false_iff_ne.mpr c20
       have c20b1 : (a0_0 != 5) = true := bne_iff_ne.mpr c20
       (first | rw [c20b0] | (simp only [i64_w, i32_w]; rw [c20b0]) | skip)
       have H' := Aside0.mk H
       clear H
       go_wp2
       go_meet
       case rel => exact ⟨_, ((a0_0 == 10)), rsd, H', ⟨by have := HJ1.out; have := HJ11.out; first | omega | exact Nat.le_refl _⟩, ⟨by (with_reducible repeat (first | refine blk_drewN ?_ _ | refine blk_drew ?_ | refine blk_alloc ?_ _)); exact BK214.out⟩, ⟨tb HB⟩⟩
      rw [if_pos c20] at H
      have c20b0 : (a0_0 == 5) = true := beq_iff_eq.mpr c20
      have c20b1 : (a0_0 != 5) = false := bne_eq_false_iff_eq.mpr c20
      clear c20
      (first | rw [c20b0] | (simp only [i64_w, i32_w]; rw [c20b0]) | skip)
      have H' := Aside0.mk H
      clear H
      go_wp2
      go_meet
      case rel => exact ⟨_, ((a0_0 == 5)), rsd, H', ⟨by have := HJ1.out; have := HJ11.out; first | omega | exact Nat.le_refl _⟩, ⟨by (with_reducible repeat (first | refine blk_drewN ?_ _ | refine blk_drew ?_ | refine blk_alloc ?_ _)); exact BK214.out⟩, ⟨tb HB⟩⟩
     case rest =>
      clear HC19
      obtain ⟨kq, x27_18, rfl, HA, HJ18, BK214, HB⟩ := hcut
      cases kq with
      | zero => exact absurd HA.out (by simp [impl_OpOk.j2])
      | succ kj18 =>
       have H := HA.out
       clear HA
       simp only [impl_OpOk.j2] at H
       cases x27_18
       case true =>
        replace H := ipt H
        by_cases c22 : a0_1 = 0
        case neg =>
         rw [if_neg c22] at H
         have c22b0 : (a0_1 == 0) = false := beq_eq_false_iff_ne.mpr c22
         have c22b1 : (a0_1 != 0) = true := bne_iff_ne.mpr c22
         obtain rfl := oin H
         have hz25 := cs3_ BK214
         go_wp2
         go_ret
         exact ⟨er, tb HB⟩
        rw [if_pos c22] at H
        have c22b0 : (a0_1 == 0) = true := beq_iff_eq.mpr c22
        have c22b1 : (a0_1 != 0) = false := bne_eq_false_iff_eq.mpr c22
        clear c22
        obtain ⟨t218, A23, H⟩ := bn H
        try dsimp only at H
        obtain rfl := oin H
        have hz24 := cs3_ BK214
        go_wp2_with (first | (go_at_call 120; (with_reducible refine (impl_ValOk.calls a0_2 t218 _ A23.out).mono ?_); rintro e w' ⟨rfl, ⟨nd, rfl⟩⟩))
        go_ret
        exact ⟨er, tb HB⟩
       replace H := ipf H
       by_cases c26 : a0_0 = 6
       case pos =>
        rw [if_pos c26] at H
        have c26b0 : (a0_0 == 6) = true := beq_iff_eq.mpr c26
        have c26b1 : (a0_0 != 6) = false := bne_eq_false_iff_eq.mpr c26
        clear c26
        obtain ⟨t219, A27, H⟩ := bn H
        try dsimp only at H
        cases t219
        case true =>
         replace H := ipt H
         obtain rfl := oin H
         have hz29 := cs3_ BK214
         go_wp2_with (first | ((with_reducible refine gf 121 rfl ?_); refine gL 42 Try.func121 #[.int .i64 a0_1] ?_; (with_reducible refine (impl_isClass.calls a0_1 true _ A27.out).mono ?_); rintro e w' ⟨rfl, ⟨nd, rfl⟩⟩; refine ⟨_, rfl, ?_⟩))
         go_ret
         exact ⟨er, tb HB⟩
        replace H := ipf H
        obtain rfl := oin H
        have hz30 := cs3_ BK214
        go_wp2_with (first | ((with_reducible refine gf 121 rfl ?_); refine gL 42 Try.func121 #[.int .i64 a0_1] ?_; (with_reducible refine (impl_isClass.calls a0_1 false _ A27.out).mono ?_); rintro e w' ⟨rfl, ⟨nd, rfl⟩⟩; refine ⟨_, rfl, ?_⟩))
        go_ret
        exact ⟨er, tb HB⟩
       rw [if_neg c26] at H
       have c26b0 : (a0_0 == 6) = false := beq_eq_false_iff_ne.mpr c26
       have c26b1 : (a0_0 != 6) = true := bne_iff_ne.mpr c26
       by_cases c31 : a0_0 = 7
       case pos =>
        rw [if_pos c31] at H
        have c31b0 : (a0_0 == 7) = true := beq_iff_eq.mpr c31
        have c31b1 : (a0_0 != 7) = false := bne_eq_false_iff_eq.mpr c31
        clear c31
        by_cases c32 : a0_1 = 0
        case neg =>
         rw [if_neg c32] at H
         have c32b0 : (a0_1 == 0) = false := beq_eq_false_iff_ne.mpr c32
         have c32b1 : (a0_1 != 0) = true := bne_iff_ne.mpr c32
         obtain rfl := oin H
         have hz34 := cs3_ BK214
         go_wp2
         go_ret
         exact ⟨er, tb HB⟩
        rw [if_pos c32] at H
        have c32b0 : (a0_1 == 0) = true := beq_iff_eq.mpr c32
        have c32b1 : (a0_1 != 0) = false := bne_eq_false_iff_eq.mpr c32
        clear c32
        obtain rfl := oin H
        have hz33 := cs3_ BK214
        go_wp2
        go_ret
        exact ⟨er, tb HB⟩
       rw [if_neg c31] at H
       have c31b0 : (a0_0 == 7) = false := beq_eq_false_iff_ne.mpr c31
       have c31b1 : (a0_0 != 7) = true := bne_iff_ne.mpr c31
       by_cases c35 : a0_0 = 8
       case pos =>
        rw [if_pos c35] at H
        have c35b0 : (a0_0 == 8) = true := beq_iff_eq.mpr c35
        have c35b1 : (a0_0 != 8) = false := bne_eq_false_iff_eq.mpr c35
        clear c35
        by_cases c36 : a0_1 = 0
        case neg =>
         rw [if_neg c36] at H
         have c36b0 : (a0_1 == 0) = false := beq_eq_false_iff_ne.mpr c36
         have c36b1 : (a0_1 != 0) = true := bne_iff_ne.mpr c36
         obtain rfl := oin H
         have hz38 := cs3_ BK214
         go_wp2
         go_ret
         exact ⟨er, tb HB⟩
        rw [if_pos c36] at H
        have c36b0 : (a0_1 == 0) = true := beq_iff_eq.mpr c36
        have c36b1 : (a0_1 != 0) = false := bne_eq_false_iff_eq.mpr c36
        clear c36
        obtain rfl := oin H
        have hz37 := cs3_ BK214
        go_wp2
        go_ret
        exact ⟨er, tb HB⟩
       rw [if_neg c35] at H
       have c35b0 : (a0_0 == 8) = false := beq_eq_false_iff_ne.mpr c35
       have c35b1 : (a0_0 != 8) = true := bne_iff_ne.mpr c35
       by_cases c39 : a0_0 = 9
       case neg =>
        rw [if_neg c39] at H
        have c39b0 : (a0_0 == 9) = false := beq_eq_false_iff_ne.mpr c39
        have c39b1 : (a0_0 != 9) = true := bne_iff_ne.mpr c39
        obtain rfl := oin H
        go_wp2
        go_ret
        exact ⟨er, tb HB⟩
 
 
       rw [if_pos c39] at H
       have c39b0 : (a0_0 == 9) = true := beq_iff_eq.mpr c39
       have c39b1 : (a0_0 != 9) = false := bne_eq_false_iff_eq.mpr c39
       clear c39
       by_cases c40 : a0_1 = 0
       case neg =>
        rw [if_neg c40] at H
        have c40b0 : (a0_1 == 0) = false := beq_eq_false_iff_ne.mpr c40
        have c40b1 : (a0_1 != 0) = true := bne_iff_ne.mpr c40
        obtain rfl := oin H
        have hz42 := cs3_ BK214
        go_wp2
        go_ret
        exact ⟨er, tb HB⟩
       rw [if_pos c40] at H
       have c40b0 : (a0_1 == 0) = true := beq_iff_eq.mpr c40
       have c40b1 : (a0_1 != 0) = false := bne_eq_false_iff_eq.mpr c40
       clear c40
       obtain rfl := oin H
       have hz41 := cs3_ BK214
       go_wp2
       go_ret
       exact ⟨er, tb HB⟩
def impl_ThreadOk_2.f (a0_0 : Int) (a0_1 : Int) : Option (Bool) := (impl_isPlace.f a0_0).bind fun t225 => (if t225 = true then ((impl_isWordNum.f a0_1).bind fun t226 => (some (!t226))) else (some true))
set_option maxHeartbeats 8000000 in
set_option maxRecDepth 100000 in
theorem impl_ThreadOk_2.calls (a0_0 : Int) (a0_1 : Int) (r : Bool) (w : World) (h : impl_ThreadOk_2.f a0_0 a0_1 = some r) :
  Calls Try.prog 87 #[.agg #[.int .i64 a0_0, .int .i64 a0_1]] w fun e w' => e = .returned (.bool r) ∧ Below w.heap.size w w' := by
 have hu123 := Try.underlying123
 have HB := Aside0.mk (Below.refl w.heap.size w)
 have H := h
 clear h
 unfold impl_ThreadOk_2.f at H
 obtain ⟨t225, A2, H⟩ := bn H
 try dsimp only at H
 cases t225
 case true =>
  replace H := ipt H
  obtain ⟨t226, A4, H⟩ := bn H
  try dsimp only at H
  obtain rfl := oin H
  go_enter Try.func87, Try.ntmps87
  go_wp2_with (first | ((with_reducible refine gq 1 rfl ?_); refine bx0 HB (N := 1) (t := 123) ?_; clear HB; intro gb224 w5 BK224 GE224 HB; have hz6 := cs2_ BK224) | ((with_reducible refine gf 88 rfl ?_); refine gL 5 Try.func88 #[.int .i64 a0_0] ?_; (with_reducible refine (impl_isPlace.calls a0_0 true _ A2.out).mono ?_); rintro e w' ⟨rfl, ⟨nd, rfl⟩⟩; refine ⟨_, rfl, ?_⟩) | (go_at_call 89; (with_reducible refine (impl_isWordNum.calls a0_1 t226 _ A4.out).mono ?_); rintro e w' ⟨rfl, ⟨nd, rfl⟩⟩))
  go_ret
  exact ⟨er, tb HB⟩
 replace H := ipf H
 obtain rfl := oin H
 go_enter Try.func87, Try.ntmps87
 go_wp2_with (first | ((with_reducible refine gq 1 rfl ?_); refine bx0 HB (N := 1) (t := 123) ?_; clear HB; intro gb224 w7 BK224 GE224 HB; have hz8 := cs2_ BK224) | ((with_reducible refine gf 88 rfl ?_); refine gL 5 Try.func88 #[.int .i64 a0_0] ?_; (with_reducible refine (impl_isPlace.calls a0_0 false _ A2.out).mono ?_); rintro e w' ⟨rfl, ⟨nd, rfl⟩⟩; refine ⟨_, rfl, ?_⟩))
 go_ret
 exact ⟨er, tb HB⟩
def impl_DescOk.l0 : Nat → List (S166) → Int → Int → Int → Int → List (S166) → Int → List Int → Option (Bool)
 | 0, _, _, _, _, _, _, _, _ => none
 | k + 1, x31, x32, x33, x1096000, x1096001, x1096002, x1096003, x1096004 => if x33 < x32 then (if 0 ≤ x33 then (if x33 < (x31.length : Int) then ((impl_isPlace.f ((rd_T166 x31 x33).f0)).bind fun t1100 => (if t1100 = true then ((impl_isWordNum.f ((rd_T166 x31 x33).f1)).bind fun t1101 => (if t1101 = true then ((impl_isWordNum.f ((rd_T166 x31 x33).f2)).bind fun t1102 => (if t1102 = true then (if x33 > 0 then (if 0 ≤ (wrap64 (x33 - 1)) then (if (wrap64 (x33 - 1)) < (x1096002.length : Int) then (if ((rd_T166 x1096002 (wrap64 (x33 - 1))).f0) ≥ ((rd_T166 x31 x33).f0) then (some false) else (impl_DescOk.l0 k x31 x32 (wrap64 (x33 + 1)) x1096000 x1096001 x1096002 x1096003 x1096004)) else (none)) else (none)) else (impl_DescOk.l0 k x31 x32 (wrap64 (x33 + 1)) x1096000 x1096001 x1096002 x1096003 x1096004)) else (some false))) else (some false))) else (some false))) else (none)) else (none)) else ((impl_from.f x1096000 1 1000000).bind fun t1096 => (if t1096 = true then ((impl_from.f x1096001 1 3).bind fun t1097 => (if t1097 = true then (some (decide ((x1096002.length : Int) ≤ 20))) else (some false))) else (some false)))
def impl_DescOk.f (k : Nat) (a0_0 : Int) (a0_1 : Int) (l0_2 : List (S166)) (a0_3 : Int) (l0_4 : List Int) : Option (Bool) := if a0_0 = 0 then (if a0_1 = 0 then (if (l0_2.length : Int) = 0 then (if a0_3 = 0 then (some ((l0_4.length : Int) == 0)) else (some false)) else (some false)) else (some false)) else (impl_DescOk.l0 k l0_2 (l0_2.length : Int) 0 a0_0 a0_1 l0_2 a0_3 l0_4)
theorem impl_DescOk.mono_l : ∀ k, (∀ y0 y1 y2 y3 y4 y5 y6 y7, LeO (impl_DescOk.l0 k y0 y1 y2 y3 y4 y5 y6 y7) (impl_DescOk.l0 (k + 1) y0 y1 y2 y3 y4 y5 y6 y7))
 | 0 => fun _ _ _ _ _ _ _ _ r h => by simp [impl_DescOk.l0] at h
 | k + 1 => by
  have ih0 := impl_DescOk.mono_l k
  ·intro y0 y1 y2 y3 y4 y5 y6 y7
   unfold impl_DescOk.l0
   repeat' first
   | (with_reducible exact ih0 _ _ _ _ _ _ _ _)
   | (with_reducible exact LeO.refl _)
   | (with_reducible exact LeO.none _)
   | (with_reducible refine LeO.ite ?_ ?_)
   | (with_reducible refine LeO.bind ?_ (fun _ => ?_))
   | exact ih0 _ _ _ _ _ _ _ _
   | exact LeO.none _
   | refine LeO.ite ?_ ?_
   | refine LeO.bind ?_ (fun _ => ?_)
theorem impl_DescOk.mono : ∀ a0 a1 a2 a3 a4 k, LeO (impl_DescOk.f k a0 a1 a2 a3 a4) (impl_DescOk.f (k + 1) a0 a1 a2 a3 a4) := by
 intro a0 a1 a2 a3 a4 k
 have ih0 := impl_DescOk.mono_l k
 unfold impl_DescOk.f
 repeat' first
   | (with_reducible exact ih0 _ _ _ _ _ _ _ _)
   | (with_reducible exact LeO.refl _)
   | (with_reducible exact LeO.none _)
   | (with_reducible refine LeO.ite ?_ ?_)
   | (with_reducible refine LeO.bind ?_ (fun _ => ?_))
   | exact ih0 _ _ _ _ _ _ _ _
   | exact LeO.none _
   | refine LeO.ite ?_ ?_
   | refine LeO.bind ?_ (fun _ => ?_)
def impl_DescOk.T6 : Bool × List (List Nat × List Nat) := (true, [([], []), ([0], [0]), ([1], [1]), ([2], [2]), ([3, 2], [3]), ([4], [4]), ([5, 4], [4, 5]), ([6, 4, 4], [4, 6]), ([7, 4], [4, 7]), ([4, 8], [4, 8]), ([9, 7], [9]), ([10], [10]), ([11, 10], [10, 11]), ([12, 10, 10], [10, 12]), ([13, 10], [10, 13]), ([10, 14], [10, 14]), ([15, 13], [15]), ([16], [16]), ([17, 16], [16, 17]), ([18, 16, 16], [16, 18]), ([19], [19]), ([20, 19], [19, 20]), ([19], [19]), ([22, 19], [19, 22]), ([21, 23, 19], [19, 21, 23]), ([24, 19], [19, 24]), ([25, 19], [19, 25]), ([19], [19]), ([27, 19], [19, 27]), ([26, 28, 19], [19, 26, 28]), ([19, 29, 16], [16, 19, 29]), ([16, 30], [16, 30])])
def impl_DescOk.B6 : List Nat := [0, 1, 3, 7, 15, 31, 63, 127, 255, 511, 1023, 2047, 4095, 8191, 16383, 32767, 65535, 131071, 262143, 524287, 1048575, 2097151, 1048575, 5242879, 16777215, 33554431, 67108863, 1048575, 135266303, 536870911, 1073741823, 2147483647]
theorem impl_DescOk.tab6 : rtab .any (opsOf Try.f182 6) = impl_DescOk.T6 := by kernel_rfl
theorem impl_DescOk.bits6 : waitsOk impl_DescOk.T6.2 impl_DescOk.B6 = true := by kernel_rfl
set_option maxHeartbeats 8000000 in
set_option maxRecDepth 100000 in
theorem impl_DescOk.calls (k : Nat) (a0_0 : Int) (a0_1 : Int) (A0_2 : Option Addr) (c0_2 : Nat) (l0_2 : List (S166)) (a0_3 : Int) (A0_4 : Option Addr) (c0_4 : Nat) (l0_4 : List Int) (r : Bool) (w : World) (hr0_2 : Kd.C k166 w A0_2 l0_2.length l0_2) (hc0_2 : l0_2.length ≤ c0_2) (hr0_4 : Kd.C (Kd.int .i64) w A0_4 l0_4.length l0_4) (hc0_4 : l0_4.length ≤ c0_4) (h : impl_DescOk.f k a0_0 a0_1 l0_2 a0_3 l0_4 = some r) :
  Calls Try.prog 182 #[.agg #[.int .i64 a0_0, .int .i64 a0_1, .slice A0_2 l0_2.length c0_2, .int .i64 a0_3, .slice A0_4 l0_4.length c0_4]] w fun e w' => e = .returned (.bool r) ∧ Below w.heap.size w w' := by
 have hu145 := Try.underlying145
 have hu166 := Try.underlying166
 have HR0_2 := Aside0.mk hr0_2
 have HC0_2 := Aside0.mk hc0_2
 clear hr0_2 hc0_2
 have HR0_4 := Aside0.mk hr0_4
 have HC0_4 := Aside0.mk hc0_4
 clear hr0_4 hc0_4
 have HB := Aside0.mk (Below.refl w.heap.size w)
 have H := h
 clear h
 unfold impl_DescOk.f at H
 by_cases c2 : a0_0 = 0
 case pos =>
  rw [if_pos c2] at H
  have c2b0 : (a0_0 == 0) = true := beq_iff_eq.mpr c2
  have c2b1 : (a0_0 != 0) = false := bne_eq_false_iff_eq.mpr c2
  clear c2
  by_cases c3 : a0_1 = 0
  case neg =>
   rw [if_neg c3] at H
   have c3b0 : (a0_1 == 0) = false := beq_eq_false_iff_ne.mpr c3
   have c3b1 : (a0_1 != 0) = true := bne_iff_ne.mpr c3
   obtain rfl := oin H
   go_enter Try.func182, Try.ntmps182
   go_wp2_with (first | ((with_reducible refine gq 1 rfl ?_); (try (refine gate_guard (by rfl) ?_; dsimp only)); refine bx0 HB (N := 1) (t := 145) ?_; clear HB; intro gb1095 w12 BK1095 GE1095 HB; have hz13 := cs5_ BK1095))
   go_ret
   exact ⟨er, tb HB⟩
  rw [if_pos c3] at H
  have c3b0 : (a0_1 == 0) = true := beq_iff_eq.mpr c3
  have c3b1 : (a0_1 != 0) = false := bne_eq_false_iff_eq.mpr c3
  clear c3
  by_cases c4 : (l0_2.length : Int) = 0
  case neg =>
   rw [if_neg c4] at H
   have c4b0 : ((l0_2.length : Int) == 0) = false := beq_eq_false_iff_ne.mpr c4
   have c4b1 : ((l0_2.length : Int) != 0) = true := bne_iff_ne.mpr c4
   have c4b2 : ¬ (l0_2 = []) := fun h_ => c4 (by rw [h_]; rfl)
   obtain rfl := oin H
   go_enter Try.func182, Try.ntmps182
   go_wp2_with (first | ((with_reducible refine gq 1 rfl ?_); (try (refine gate_guard (by rfl) ?_; dsimp only)); refine bx0 HB (N := 1) (t := 145) ?_; clear HB; intro gb1095 w10 BK1095 GE1095 HB; have hz11 := cs5_ BK1095))
   go_ret
   exact ⟨er, tb HB⟩
  rw [if_pos c4] at H
  have c4b0 : ((l0_2.length : Int) == 0) = true := beq_iff_eq.mpr c4
  have c4b1 : ((l0_2.length : Int) != 0) = false := bne_eq_false_iff_eq.mpr c4
  clear c4
  by_cases c5 : a0_3 = 0
  case neg =>
   rw [if_neg c5] at H
   have c5b0 : (a0_3 == 0) = false := beq_eq_false_iff_ne.mpr c5
   have c5b1 : (a0_3 != 0) = true := bne_iff_ne.mpr c5
   obtain rfl := oin H
   go_enter Try.func182, Try.ntmps182
   go_wp2_with (first | ((with_reducible refine gq 1 rfl ?_); (try (refine gate_guard (by rfl) ?_; dsimp only)); refine bx0 HB (N := 1) (t := 145) ?_; clear HB; intro gb1095 w8 BK1095 GE1095 HB; have hz9 := cs5_ BK1095))
   go_ret
   exact ⟨er, tb HB⟩
  rw [if_pos c5] at H
  have c5b0 : (a0_3 == 0) = true := beq_iff_eq.mpr c5
  have c5b1 : (a0_3 != 0) = false := bne_eq_false_iff_eq.mpr c5
  clear c5
  obtain rfl := oin H
  go_enter Try.func182, Try.ntmps182
  go_wp2_with (first | ((with_reducible refine gq 1 rfl ?_); (try (refine gate_guard (by rfl) ?_; dsimp only)); refine bx0 HB (N := 1) (t := 145) ?_; clear HB; intro gb1095 w6 BK1095 GE1095 HB; have hz7 := cs5_ BK1095))
  go_ret
  exact ⟨er, tb HB⟩
 rw [if_neg c2] at H
 have c2b0 : (a0_0 == 0) = false := beq_eq_false_iff_ne.mpr c2
 have c2b1 : (a0_0 != 0) = true := bne_iff_ne.mpr c2
 have H' := Aside0.mk H
 clear H
 go_enter Try.func182, Try.ntmps182
 go_wp2_with (first | ((with_reducible refine gq 1 rfl ?_); (try (refine gate_guard (by rfl) ?_; dsimp only)); refine bx0 HB (N := 1) (t := 145) ?_; clear HB; intro gb1095 w14 BK1095 GE1095 HB; have hz15 := cs5_ BK1095))
 go_loopg [33] k (fun kq v33 w' => ∃ (x33_1 : Int), v33 = .int .i64 x33_1 ∧ Aside0 (impl_DescOk.l0 kq l0_2 (l0_2.length : Int) x33_1 a0_0 a0_1 l0_2 a0_3 l0_4 = some r) ∧ Aside0 (kq ≤ k) ∧ Aside0 (w'.heap[gb1095]? = some (.cells #[.int .i64 a0_0, .int .i64 a0_1, (.slice A0_2 l0_2.length c0_2), .int .i64 a0_3, (.slice A0_4 l0_4.length c0_4)] 145 (0, 0))) ∧ Aside0 (Below w.heap.size w w'))
 case atStart => exact ⟨(0), rsd, H', ⟨Nat.le_refl _⟩, ⟨by (with_reducible repeat (first | refine blk_drewN ?_ _ | refine blk_drew ?_ | refine blk_alloc ?_ _)); exact BK1095.out⟩, ⟨tb HB⟩⟩
 case round =>
  clear H'
  obtain ⟨x33_1, rfl, HA, HK1, BK1095, HB⟩ := hrel
  cases gk with
  | zero => exact absurd HA.out (by simp [impl_DescOk.l0])
  | succ k1 =>
   have H := HA.out
   clear HA
   simp only [impl_DescOk.l0] at H
   revert H; refine icd (fun c16b0 H => ?_) fun c16b0 H => ?neg
   case neg =>
    obtain ⟨t1096, A60, H⟩ := bn H
    try dsimp only at H
    cases t1096
    case false =>
     replace H := ipf H
     obtain rfl := oin H
     have hz66 := cs5_ BK1095
     go_wp2_with (first | ((with_reducible refine gf 85 rfl ?_); refine gL 73 Try.func85 #[.int .i64 a0_0, .int .i64 1, .int .i64 1000000] ?_; (with_reducible refine (impl_from.calls a0_0 1 1000000 false _ A60.out).mono ?_); rintro e w' ⟨rfl, ⟨nd, rfl⟩⟩; refine ⟨_, rfl, ?_⟩))
     go_ret
     exact ⟨er, tb HB⟩
    replace H := ipt H
    obtain ⟨t1097, A62, H⟩ := bn H
    try dsimp only at H
    cases t1097
    case true =>
     replace H := ipt H
     obtain rfl := oin H
     have hz64 := cs5_ BK1095
     go_wp2_with (first | ((with_reducible refine gf 85 rfl ?_); refine gL 73 Try.func85 #[.int .i64 a0_0, .int .i64 1, .int .i64 1000000] ?_; (with_reducible refine (impl_from.calls a0_0 1 1000000 true _ A60.out).mono ?_); rintro e w' ⟨rfl, ⟨nd, rfl⟩⟩; refine ⟨_, rfl, ?_⟩) | (go_at_call 85; (with_reducible refine (impl_from.calls a0_1 1 3 true _ A62.out).mono ?_); rintro e w' ⟨rfl, ⟨nd, rfl⟩⟩))
     go_ret
     exact ⟨er, tb HB⟩
    replace H := ipf H
    obtain rfl := oin H
    have hz65 := cs5_ BK1095
    go_wp2_with (first | ((with_reducible refine gf 85 rfl ?_); refine gL 73 Try.func85 #[.int .i64 a0_0, .int .i64 1, .int .i64 1000000] ?_; (with_reducible refine (impl_from.calls a0_0 1 1000000 true _ A60.out).mono ?_); rintro e w' ⟨rfl, ⟨nd, rfl⟩⟩; refine ⟨_, rfl, ?_⟩) | (go_at_call 85; (with_reducible refine (impl_from.calls a0_1 1 3 false _ A62.out).mono ?_); rintro e w' ⟨rfl, ⟨nd, rfl⟩⟩))
    go_ret
    exact ⟨er, tb HB⟩
   obtain ⟨c17b0, H⟩ := itd H
   obtain ⟨c18b0, H⟩ := itd H
   obtain ⟨t1100, A19, H⟩ := bn H
   try dsimp only at H
   cases t1100
   case false =>
    replace H := ipf H
    obtain rfl := oin H
    have p1098 : 0 ≤ (x33_1 : Int) := od
    have q1098 : x33_1 < (l0_2.length : Int) := od
    obtain ⟨ad1098, e1098, hx1098⟩ := att166 HR0_2.out x33_1 p1098 q1098
    cases e1098
    replace hx1098 := ox3 HB hx1098
    replace p1098 := eq_true p1098
    replace q1098 := eq_true q1098
    try go_wp2_with (first | ((with_reducible refine gq 4 rfl ?_); (try (refine gate_guard (by rfl) ?_; dsimp only)); refine bx1 HB BK1095 (N := 4) (cs := #[.int .i64 0, .int .i64 0, .int .i64 0]) (t := 166) ?_; clear HB BK1095; intro gb1099 w55 BK1099 GE1099 HB NB1095_1099 NB1099_1095 BK1095; have hnb56 := NB1099_1095.out; have hnc56 := NB1095_1099.out; have hz57 := cs3_ BK1099))
    have n0_ : Aside0 ((((w55.setCell ⟨gb1099, 0, none⟩ (.int .i64 ((rd_T166 l0_2 x33_1).f0))).setCell ⟨gb1099, 1, none⟩ (.int .i64 ((rd_T166 l0_2 x33_1).f1))).setCell ⟨gb1099, 2, none⟩ (.int .i64 ((rd_T166 l0_2 x33_1).f2))).heap[gb1095]? = some (.cells #[.int .i64 a0_0, .int .i64 a0_1, .slice (some ad1098) l0_2.length c0_2, .int .i64 a0_3, .slice A0_4 l0_4.length c0_4] 145 (0, 0))) := ⟨bf BK1095⟩
    have n1_ : Aside0 ((((w55.setCell ⟨gb1099, 0, none⟩ (.int .i64 ((rd_T166 l0_2 x33_1).f0))).setCell ⟨gb1099, 1, none⟩ (.int .i64 ((rd_T166 l0_2 x33_1).f1))).setCell ⟨gb1099, 2, none⟩ (.int .i64 ((rd_T166 l0_2 x33_1).f2))).heap[gb1099]? = some (.cells #[.int .i64 ((rd_T166 l0_2 x33_1).f0), .int .i64 ((rd_T166 l0_2 x33_1).f1), .int .i64 ((rd_T166 l0_2 x33_1).f2)] 166 (0, 0))) := ⟨bfp3 BK1099⟩
    have n2_ : Aside0 (Below w.heap.size w (((w55.setCell ⟨gb1099, 0, none⟩ (.int .i64 ((rd_T166 l0_2 x33_1).f0))).setCell ⟨gb1099, 1, none⟩ (.int .i64 ((rd_T166 l0_2 x33_1).f1))).setCell ⟨gb1099, 2, none⟩ (.int .i64 ((rd_T166 l0_2 x33_1).f2)))) := ⟨tb HB⟩
    (try clear BK1095)
    (try clear BK1099)
    (try clear HB)
    generalize (((w55.setCell ⟨gb1099, 0, none⟩ (.int .i64 ((rd_T166 l0_2 x33_1).f0))).setCell ⟨gb1099, 1, none⟩ (.int .i64 ((rd_T166 l0_2 x33_1).f1))).setCell ⟨gb1099, 2, none⟩ (.int .i64 ((rd_T166 l0_2 x33_1).f2))) = w58 at n0_ n1_ n2_ ⊢
    have BK1095 := n0_
    have BK1099 := n1_
    have HB := n2_
    clear n0_ n1_ n2_
    replace BK1095 := bd BK1095
    replace BK1099 := bd BK1099
    replace HB := Aside0.mk (below_drew1 HB.out)
    refine start_ (n := 32) (S := fun w' => cS3 gb1099 (.int .i64 ((rd_T166 l0_2 x33_1).f0)) (.int .i64 ((rd_T166 l0_2 x33_1).f1)) (.int .i64 ((rd_T166 l0_2 x33_1).f2)) w') (ds := []) #[false, false, false, false, false, false, false, false, false, false, false, false, false, false, false, false, false, false, false, false, false, false, false, false, false, false, false, false, false, false, false, false] (by kernel_rfl) rfl rfl (ds3_ BK1099) (fun hHeld => ?_); refine with_tabW impl_DescOk.tab6 impl_DescOk.bits6 (fun HT_ HW_ => ?_)
    generalize w58.drew = w59 at BK1095 BK1099 HB hHeld ⊢
    refine pu 0 38 ?_; refine ta 1 39 ?_
    refine on1 2 (some 40) (fun K hK => ?_)
    refine gS Try.func88 #[.int .i64 ((rd_T166 l0_2 x33_1).f0)] ?_
    with_reducible refine (impl_isPlace.calls ((rd_T166 l0_2 x33_1).f0) false _ A19.out).mono ?_
    rintro e w' ⟨rfl, ⟨nd, rfl⟩⟩
    refine ⟨_, rfl, ?_⟩
    refine hK.out _ _ (ds3_ BK1099) (fun hHeld => ?_)
    clear hK K
    refine nm 40 ?_
    refine pu 3 41 ?_; refine pu 4 42 ?_; refine pn 5 43 ?_; refine pn 6 44 ?_; refine pn 7 45 ?_; refine pn 8 46 ?_; refine pu 9 47 ?_; refine pu 10 48 ?_; refine pn 11 49 ?_; refine pn 12 50 ?_; refine pn 13 51 ?_; refine pn 14 52 ?_
    refine pu 15 53 ?_; refine pu 16 54 ?_; refine pn 17 55 ?_; refine pn 18 56 ?_; refine pn 19 57 ?_; refine pn 20 58 ?_; refine pn 21 59 ?_; refine pn 22 60 ?_; refine pn 23 61 ?_; refine pn 24 62 ?_; refine pn 25 63 ?_; refine pn 26 64 ?_
    refine pn 27 65 ?_; refine pn 28 66 ?_; refine pn 29 67 ?_; refine pn 30 68 ?_; refine pu 31 69 ?_
    refine done_ (done_of HT_.out (by kernel_rfl)) ?_
    try go_wp2
    go_ret
    exact ⟨er, tb HB⟩
   replace H := ipt H
   obtain ⟨t1101, A21, H⟩ := bn H
   try dsimp only at H
   cases t1101
   case false =>
    replace H := ipf H
    obtain rfl := oin H
    have p1098 : 0 ≤ (x33_1 : Int) := od
    have q1098 : x33_1 < (l0_2.length : Int) := od
    obtain ⟨ad1098, e1098, hx1098_0, hx1098_1, hx1098_2⟩ := at_T166 HR0_2.out x33_1 p1098 q1098
    cases e1098
    replace hx1098_0 := ox HB hx1098_0
    replace hx1098_1 := ox HB hx1098_1
    replace hx1098_2 := ox HB hx1098_2
    replace p1098 := eq_true p1098
    replace q1098 := eq_true q1098
    try go_wp2_with (first | ((with_reducible refine gq 4 rfl ?_); (try (refine gate_guard (by rfl) ?_; dsimp only)); refine bx1 HB BK1095 (N := 4) (cs := #[.int .i64 0, .int .i64 0, .int .i64 0]) (t := 166) ?_; clear HB BK1095; intro gb1099 w50 BK1099 GE1099 HB NB1095_1099 NB1099_1095 BK1095; have hnb51 := NB1099_1095.out; have hnc51 := NB1095_1099.out; have hz52 := cs3_ BK1099))
    have n0_ : Aside0 ((((w50.setCell ⟨gb1099, 0, none⟩ (.int .i64 ((rd_T166 l0_2 x33_1).f0))).setCell ⟨gb1099, 1, none⟩ (.int .i64 ((rd_T166 l0_2 x33_1).f1))).setCell ⟨gb1099, 2, none⟩ (.int .i64 ((rd_T166 l0_2 x33_1).f2))).heap[gb1095]? = some (.cells #[.int .i64 a0_0, .int .i64 a0_1, .slice (some ad1098) l0_2.length c0_2, .int .i64 a0_3, .slice A0_4 l0_4.length c0_4] 145 (0, 0))) := ⟨bf BK1095⟩
    have n1_ : Aside0 ((((w50.setCell ⟨gb1099, 0, none⟩ (.int .i64 ((rd_T166 l0_2 x33_1).f0))).setCell ⟨gb1099, 1, none⟩ (.int .i64 ((rd_T166 l0_2 x33_1).f1))).setCell ⟨gb1099, 2, none⟩ (.int .i64 ((rd_T166 l0_2 x33_1).f2))).heap[gb1099]? = some (.cells #[.int .i64 ((rd_T166 l0_2 x33_1).f0), .int .i64 ((rd_T166 l0_2 x33_1).f1), .int .i64 ((rd_T166 l0_2 x33_1).f2)] 166 (0, 0))) := ⟨bfp3 BK1099⟩
    have n2_ : Aside0 (Below w.heap.size w (((w50.setCell ⟨gb1099, 0, none⟩ (.int .i64 ((rd_T166 l0_2 x33_1).f0))).setCell ⟨gb1099, 1, none⟩ (.int .i64 ((rd_T166 l0_2 x33_1).f1))).setCell ⟨gb1099, 2, none⟩ (.int .i64 ((rd_T166 l0_2 x33_1).f2)))) := ⟨tb HB⟩
    (try clear BK1095)
    (try clear BK1099)
    (try clear HB)
    generalize (((w50.setCell ⟨gb1099, 0, none⟩ (.int .i64 ((rd_T166 l0_2 x33_1).f0))).setCell ⟨gb1099, 1, none⟩ (.int .i64 ((rd_T166 l0_2 x33_1).f1))).setCell ⟨gb1099, 2, none⟩ (.int .i64 ((rd_T166 l0_2 x33_1).f2))) = w53 at n0_ n1_ n2_ ⊢
    have BK1095 := n0_
    have BK1099 := n1_
    have HB := n2_
    clear n0_ n1_ n2_
    replace BK1095 := bd BK1095
    replace BK1099 := bd BK1099
    replace HB := Aside0.mk (below_drew1 HB.out)
    refine start_ (n := 32) (S := fun w' => cS3 gb1099 (.int .i64 ((rd_T166 l0_2 x33_1).f0)) (.int .i64 ((rd_T166 l0_2 x33_1).f1)) (.int .i64 ((rd_T166 l0_2 x33_1).f2)) w') (ds := []) #[false, false, false, false, false, false, false, false, false, false, false, false, false, false, false, false, false, false, false, false, false, false, false, false, false, false, false, false, false, false, false, false] (by kernel_rfl) rfl rfl (ds3_ BK1099) (fun hHeld => ?_); refine with_tabW impl_DescOk.tab6 impl_DescOk.bits6 (fun HT_ HW_ => ?_)
    generalize w53.drew = w54 at BK1095 BK1099 HB hHeld ⊢
    refine pu 0 38 ?_; refine ta 1 39 ?_
    refine on1 2 (some 40) (fun K hK => ?_)
    refine gS Try.func88 #[.int .i64 ((rd_T166 l0_2 x33_1).f0)] ?_
    with_reducible refine (impl_isPlace.calls ((rd_T166 l0_2 x33_1).f0) true _ A19.out).mono ?_
    rintro e w' ⟨rfl, ⟨nd, rfl⟩⟩
    refine ⟨_, rfl, ?_⟩
    refine hK.out _ _ (ds3_ BK1099) (fun hHeld => ?_)
    clear hK K
    refine nm 40 ?_
    refine pu 3 41 ?_; refine pu 4 42 ?_; refine pu 5 43 ?_; refine ta 6 44 ?_
    refine on1 7 (some 45) (fun K hK => ?_)
    refine gS Try.func89 #[.int .i64 ((rd_T166 l0_2 x33_1).f1)] ?_
    with_reducible refine (impl_isWordNum.calls ((rd_T166 l0_2 x33_1).f1) false _ A21.out).mono ?_
    rintro e w' ⟨rfl, ⟨nd, rfl⟩⟩
    refine ⟨_, rfl, ?_⟩
    refine hK.out _ _ (ds3_ BK1099) (fun hHeld => ?_)
    clear hK K
    refine nm 45 ?_
    refine pu 8 46 ?_; refine pu 9 47 ?_; refine pu 10 48 ?_; refine pn 11 49 ?_; refine pn 12 50 ?_; refine pn 13 51 ?_; refine pn 14 52 ?_; refine pu 15 53 ?_; refine pu 16 54 ?_; refine pn 17 55 ?_; refine pn 18 56 ?_; refine pn 19 57 ?_
    refine pn 20 58 ?_; refine pn 21 59 ?_; refine pn 22 60 ?_; refine pn 23 61 ?_; refine pn 24 62 ?_; refine pn 25 63 ?_; refine pn 26 64 ?_; refine pn 27 65 ?_; refine pn 28 66 ?_; refine pn 29 67 ?_; refine pn 30 68 ?_; refine pu 31 69 ?_
    refine done_ (done_of HT_.out (by kernel_rfl)) ?_
    try go_wp2
    go_ret
    exact ⟨er, tb HB⟩
   replace H := ipt H
   obtain ⟨t1102, A23, H⟩ := bn H
   try dsimp only at H
   cases t1102
   case false =>
    replace H := ipf H
    obtain rfl := oin H
    have p1098 : 0 ≤ (x33_1 : Int) := od
    have q1098 : x33_1 < (l0_2.length : Int) := od
    obtain ⟨ad1098, e1098, hx1098_0, hx1098_1, hx1098_2⟩ := at_T166 HR0_2.out x33_1 p1098 q1098
    cases e1098
    replace hx1098_0 := ox HB hx1098_0
    replace hx1098_1 := ox HB hx1098_1
    replace hx1098_2 := ox HB hx1098_2
    replace p1098 := eq_true p1098
    replace q1098 := eq_true q1098
    try go_wp2_with (first | ((with_reducible refine gq 4 rfl ?_); (try (refine gate_guard (by rfl) ?_; dsimp only)); refine bx1 HB BK1095 (N := 4) (cs := #[.int .i64 0, .int .i64 0, .int .i64 0]) (t := 166) ?_; clear HB BK1095; intro gb1099 w45 BK1099 GE1099 HB NB1095_1099 NB1099_1095 BK1095; have hnb46 := NB1099_1095.out; have hnc46 := NB1095_1099.out; have hz47 := cs3_ BK1099))
    have n0_ : Aside0 ((((w45.setCell ⟨gb1099, 0, none⟩ (.int .i64 ((rd_T166 l0_2 x33_1).f0))).setCell ⟨gb1099, 1, none⟩ (.int .i64 ((rd_T166 l0_2 x33_1).f1))).setCell ⟨gb1099, 2, none⟩ (.int .i64 ((rd_T166 l0_2 x33_1).f2))).heap[gb1095]? = some (.cells #[.int .i64 a0_0, .int .i64 a0_1, .slice (some ad1098) l0_2.length c0_2, .int .i64 a0_3, .slice A0_4 l0_4.length c0_4] 145 (0, 0))) := ⟨bf BK1095⟩
    have n1_ : Aside0 ((((w45.setCell ⟨gb1099, 0, none⟩ (.int .i64 ((rd_T166 l0_2 x33_1).f0))).setCell ⟨gb1099, 1, none⟩ (.int .i64 ((rd_T166 l0_2 x33_1).f1))).setCell ⟨gb1099, 2, none⟩ (.int .i64 ((rd_T166 l0_2 x33_1).f2))).heap[gb1099]? = some (.cells #[.int .i64 ((rd_T166 l0_2 x33_1).f0), .int .i64 ((rd_T166 l0_2 x33_1).f1), .int .i64 ((rd_T166 l0_2 x33_1).f2)] 166 (0, 0))) := ⟨bfp3 BK1099⟩
    have n2_ : Aside0 (Below w.heap.size w (((w45.setCell ⟨gb1099, 0, none⟩ (.int .i64 ((rd_T166 l0_2 x33_1).f0))).setCell ⟨gb1099, 1, none⟩ (.int .i64 ((rd_T166 l0_2 x33_1).f1))).setCell ⟨gb1099, 2, none⟩ (.int .i64 ((rd_T166 l0_2 x33_1).f2)))) := ⟨tb HB⟩
    (try clear BK1095)
    (try clear BK1099)
    (try clear HB)
    generalize (((w45.setCell ⟨gb1099, 0, none⟩ (.int .i64 ((rd_T166 l0_2 x33_1).f0))).setCell ⟨gb1099, 1, none⟩ (.int .i64 ((rd_T166 l0_2 x33_1).f1))).setCell ⟨gb1099, 2, none⟩ (.int .i64 ((rd_T166 l0_2 x33_1).f2))) = w48 at n0_ n1_ n2_ ⊢
    have BK1095 := n0_
    have BK1099 := n1_
    have HB := n2_
    clear n0_ n1_ n2_
    replace BK1095 := bd BK1095
    replace BK1099 := bd BK1099
    replace HB := Aside0.mk (below_drew1 HB.out)
    refine start_ (n := 32) (S := fun w' => cS3 gb1099 (.int .i64 ((rd_T166 l0_2 x33_1).f0)) (.int .i64 ((rd_T166 l0_2 x33_1).f1)) (.int .i64 ((rd_T166 l0_2 x33_1).f2)) w') (ds := []) #[false, false, false, false, false, false, false, false, false, false, false, false, false, false, false, false, false, false, false, false, false, false, false, false, false, false, false, false, false, false, false, false] (by kernel_rfl) rfl rfl (ds3_ BK1099) (fun hHeld => ?_); refine with_tabW impl_DescOk.tab6 impl_DescOk.bits6 (fun HT_ HW_ => ?_)
    generalize w48.drew = w49 at BK1095 BK1099 HB hHeld ⊢
    refine pu 0 38 ?_; refine ta 1 39 ?_
    refine on1 2 (some 40) (fun K hK => ?_)
    refine gS Try.func88 #[.int .i64 ((rd_T166 l0_2 x33_1).f0)] ?_
    with_reducible refine (impl_isPlace.calls ((rd_T166 l0_2 x33_1).f0) true _ A19.out).mono ?_
    rintro e w' ⟨rfl, ⟨nd, rfl⟩⟩
    refine ⟨_, rfl, ?_⟩
    refine hK.out _ _ (ds3_ BK1099) (fun hHeld => ?_)
    clear hK K
    refine nm 40 ?_
    refine pu 3 41 ?_; refine pu 4 42 ?_; refine pu 5 43 ?_; refine ta 6 44 ?_
    refine on1 7 (some 45) (fun K hK => ?_)
    refine gS Try.func89 #[.int .i64 ((rd_T166 l0_2 x33_1).f1)] ?_
    with_reducible refine (impl_isWordNum.calls ((rd_T166 l0_2 x33_1).f1) true _ A21.out).mono ?_
    rintro e w' ⟨rfl, ⟨nd, rfl⟩⟩
    refine ⟨_, rfl, ?_⟩
    refine hK.out _ _ (ds3_ BK1099) (fun hHeld => ?_)
    clear hK K
    refine nm 45 ?_
    refine pu 8 46 ?_; refine pu 9 47 ?_; refine pu 10 48 ?_; refine pu 11 49 ?_; refine ta 12 50 ?_
    refine on1 13 (some 51) (fun K hK => ?_)
    refine gS Try.func89 #[.int .i64 ((rd_T166 l0_2 x33_1).f2)] ?_
    with_reducible refine (impl_isWordNum.calls ((rd_T166 l0_2 x33_1).f2) false _ A23.out).mono ?_
    rintro e w' ⟨rfl, ⟨nd, rfl⟩⟩
    refine ⟨_, rfl, ?_⟩
    refine hK.out _ _ (ds3_ BK1099) (fun hHeld => ?_)
    clear hK K
    refine nm 51 ?_
    refine pu 14 52 ?_; refine pu 15 53 ?_; refine pu 16 54 ?_; refine pn 17 55 ?_; refine pn 18 56 ?_; refine pn 19 57 ?_; refine pn 20 58 ?_; refine pn 21 59 ?_; refine pn 22 60 ?_; refine pn 23 61 ?_; refine pn 24 62 ?_; refine pn 25 63 ?_
    refine pn 26 64 ?_; refine pn 27 65 ?_; refine pn 28 66 ?_; refine pn 29 67 ?_; refine pn 30 68 ?_; refine pu 31 69 ?_
    refine done_ (done_of HT_.out (by kernel_rfl)) ?_
    try go_wp2
    go_ret
    exact ⟨er, tb HB⟩
   replace H := ipt H
   revert H; refine icd (fun c25b0 H => ?_) fun c25b0 H => ?neg
   case neg =>
    have H' := Aside0.mk H
    clear H
    have p1098 : 0 ≤ (x33_1 : Int) := od
    have q1098 : x33_1 < (l0_2.length : Int) := od
    obtain ⟨ad1098, e1098, hx1098_0, hx1098_1, hx1098_2⟩ := at_T166 HR0_2.out x33_1 p1098 q1098
    cases e1098
    replace hx1098_0 := ox HB hx1098_0
    replace hx1098_1 := ox HB hx1098_1
    replace hx1098_2 := ox HB hx1098_2
    replace p1098 := eq_true p1098
    replace q1098 := eq_true q1098
    try go_wp2_with (first | ((with_reducible refine gq 4 rfl ?_); (try (refine gate_guard (by rfl) ?_; dsimp only)); refine bx1 HB BK1095 (N := 4) (cs := #[.int .i64 0, .int .i64 0, .int .i64 0]) (t := 166) ?_; clear HB BK1095; intro gb1099 w40 BK1099 GE1099 HB NB1095_1099 NB1099_1095 BK1095; have hnb41 := NB1099_1095.out; have hnc41 := NB1095_1099.out; have hz42 := cs3_ BK1099))
    have n0_ : Aside0 ((((w40.setCell ⟨gb1099, 0, none⟩ (.int .i64 ((rd_T166 l0_2 x33_1).f0))).setCell ⟨gb1099, 1, none⟩ (.int .i64 ((rd_T166 l0_2 x33_1).f1))).setCell ⟨gb1099, 2, none⟩ (.int .i64 ((rd_T166 l0_2 x33_1).f2))).heap[gb1095]? = some (.cells #[.int .i64 a0_0, .int .i64 a0_1, .slice (some ad1098) l0_2.length c0_2, .int .i64 a0_3, .slice A0_4 l0_4.length c0_4] 145 (0, 0))) := ⟨bf BK1095⟩
    have n1_ : Aside0 ((((w40.setCell ⟨gb1099, 0, none⟩ (.int .i64 ((rd_T166 l0_2 x33_1).f0))).setCell ⟨gb1099, 1, none⟩ (.int .i64 ((rd_T166 l0_2 x33_1).f1))).setCell ⟨gb1099, 2, none⟩ (.int .i64 ((rd_T166 l0_2 x33_1).f2))).heap[gb1099]? = some (.cells #[.int .i64 ((rd_T166 l0_2 x33_1).f0), .int .i64 ((rd_T166 l0_2 x33_1).f1), .int .i64 ((rd_T166 l0_2 x33_1).f2)] 166 (0, 0))) := ⟨bfp3 BK1099⟩
    have n2_ : Aside0 (Below w.heap.size w (((w40.setCell ⟨gb1099, 0, none⟩ (.int .i64 ((rd_T166 l0_2 x33_1).f0))).setCell ⟨gb1099, 1, none⟩ (.int .i64 ((rd_T166 l0_2 x33_1).f1))).setCell ⟨gb1099, 2, none⟩ (.int .i64 ((rd_T166 l0_2 x33_1).f2)))) := ⟨tb HB⟩
    (try clear BK1095)
    (try clear BK1099)
    (try clear HB)
    generalize (((w40.setCell ⟨gb1099, 0, none⟩ (.int .i64 ((rd_T166 l0_2 x33_1).f0))).setCell ⟨gb1099, 1, none⟩ (.int .i64 ((rd_T166 l0_2 x33_1).f1))).setCell ⟨gb1099, 2, none⟩ (.int .i64 ((rd_T166 l0_2 x33_1).f2))) = w43 at n0_ n1_ n2_ ⊢
    have BK1095 := n0_
    have BK1099 := n1_
    have HB := n2_
    clear n0_ n1_ n2_
    replace BK1095 := bd BK1095
    replace BK1099 := bd BK1099
    replace HB := Aside0.mk (below_drew1 HB.out)
    refine start_ (n := 32) (S := fun w' => cS3 gb1099 (.int .i64 ((rd_T166 l0_2 x33_1).f0)) (.int .i64 ((rd_T166 l0_2 x33_1).f1)) (.int .i64 ((rd_T166 l0_2 x33_1).f2)) w') (ds := []) #[false, false, false, false, false, false, false, false, false, false, false, false, false, false, false, false, false, false, false, false, false, false, false, false, false, false, false, false, false, false, false, false] (by kernel_rfl) rfl rfl (ds3_ BK1099) (fun hHeld => ?_); refine with_tabW impl_DescOk.tab6 impl_DescOk.bits6 (fun HT_ HW_ => ?_)
    generalize w43.drew = w44 at BK1095 BK1099 HB hHeld ⊢
    refine pu 0 38 ?_; refine ta 1 39 ?_
    refine on1 2 (some 40) (fun K hK => ?_)
    refine gS Try.func88 #[.int .i64 ((rd_T166 l0_2 x33_1).f0)] ?_
    with_reducible refine (impl_isPlace.calls ((rd_T166 l0_2 x33_1).f0) true _ A19.out).mono ?_
    rintro e w' ⟨rfl, ⟨nd, rfl⟩⟩
    refine ⟨_, rfl, ?_⟩
    refine hK.out _ _ (ds3_ BK1099) (fun hHeld => ?_)
    clear hK K
    refine nm 40 ?_
    refine pu 3 41 ?_; refine pu 4 42 ?_; refine pu 5 43 ?_; refine ta 6 44 ?_
    refine on1 7 (some 45) (fun K hK => ?_)
    refine gS Try.func89 #[.int .i64 ((rd_T166 l0_2 x33_1).f1)] ?_
    with_reducible refine (impl_isWordNum.calls ((rd_T166 l0_2 x33_1).f1) true _ A21.out).mono ?_
    rintro e w' ⟨rfl, ⟨nd, rfl⟩⟩
    refine ⟨_, rfl, ?_⟩
    refine hK.out _ _ (ds3_ BK1099) (fun hHeld => ?_)
    clear hK K
    refine nm 45 ?_
    refine pu 8 46 ?_; refine pu 9 47 ?_; refine pu 10 48 ?_; refine pu 11 49 ?_; refine ta 12 50 ?_
    refine on1 13 (some 51) (fun K hK => ?_)
    refine gS Try.func89 #[.int .i64 ((rd_T166 l0_2 x33_1).f2)] ?_
    with_reducible refine (impl_isWordNum.calls ((rd_T166 l0_2 x33_1).f2) true _ A23.out).mono ?_
    rintro e w' ⟨rfl, ⟨nd, rfl⟩⟩
    refine ⟨_, rfl, ?_⟩
    refine hK.out _ _ (ds3_ BK1099) (fun hHeld => ?_)
    clear hK K
    refine nm 51 ?_
    refine pu 14 52 ?_; refine pu 15 53 ?_; refine pu 16 54 ?_; refine pu 17 55 ?_; refine pu 18 56 ?_; refine pu 19 57 ?_; refine pn 20 58 ?_; refine pn 21 59 ?_; refine pn 22 60 ?_; refine pn 23 61 ?_; refine pn 24 62 ?_; refine pn 25 63 ?_
    refine pn 26 64 ?_; refine pn 27 65 ?_; refine pn 28 66 ?_; refine pn 29 67 ?_; refine pu 30 68 ?_; refine pu 31 69 ?_
    refine done_ (done_of HT_.out (by kernel_rfl)) ?_
    try go_wp2
    go_roundg k1
    case measure => have := HK1.out; omega
    case rel => exact ⟨(wrap64 (x33_1 + 1)), rsd, H', ⟨by have := HK1.out; omega⟩, ⟨by (with_reducible repeat (first | refine blk_drewN ?_ _ | refine blk_drew ?_ | refine blk_alloc ?_ _)); exact BK1095.out⟩, ⟨tb HB⟩⟩
   obtain ⟨ji26, hji26⟩ : ∃ j_ : Int, (wrap64 (x33_1 - 1)) = j_ := ⟨_, rfl⟩
   replace H : (if 0 ≤ (ji26) then (if (ji26) < (l0_2.length : Int) then (if ((rd_T166 l0_2 (ji26)).f0) ≥ ((rd_T166 l0_2 x33_1).f0) then (some false) else (impl_DescOk.l0 k1 l0_2 (l0_2.length : Int) (wrap64 (x33_1 + 1)) a0_0 a0_1 l0_2 a0_3 l0_4)) else (none)) else (none)) = some r := by first | (rw [hji26] at H; exact H) | (simp only [hji26] at H ⊢; exact H)
   (try rw [hji26] at A19)
   (try rw [hji26] at A21)
   (try rw [hji26] at A23)
   have hji26w : (IntKind.i64.wrap (x33_1 - 1)) = ji26 := (i64_w _).trans hji26
   obtain ⟨c27b0, H⟩ := itd H
   obtain ⟨c28b0, H⟩ := itd H
   revert H; refine icd (fun c29b0 H => ?pos) fun c29b0 H => ?_
   case pos =>
    obtain rfl := oin H
    have p1098 : 0 ≤ (x33_1 : Int) := od
    have q1098 : x33_1 < (l0_2.length : Int) := od
    obtain ⟨ad1098, e1098, hx1098_0, hx1098_1, hx1098_2⟩ := at_T166 HR0_2.out x33_1 p1098 q1098
    cases e1098
    replace hx1098_0 := ox HB hx1098_0
    replace hx1098_1 := ox HB hx1098_1
    replace hx1098_2 := ox HB hx1098_2
    replace p1098 := eq_true p1098
    replace q1098 := eq_true q1098
    try go_wp2_with (first | ((with_reducible refine gq 4 rfl ?_); (try (refine gate_guard (by rfl) ?_; dsimp only)); refine bx1 HB BK1095 (N := 4) (cs := #[.int .i64 0, .int .i64 0, .int .i64 0]) (t := 166) ?_; clear HB BK1095; intro gb1099 w30 BK1099 GE1099 HB NB1095_1099 NB1099_1095 BK1095; have hnb31 := NB1099_1095.out; have hnc31 := NB1095_1099.out; have hz32 := cs3_ BK1099))
    have n0_ : Aside0 ((((w30.setCell ⟨gb1099, 0, none⟩ (.int .i64 ((rd_T166 l0_2 x33_1).f0))).setCell ⟨gb1099, 1, none⟩ (.int .i64 ((rd_T166 l0_2 x33_1).f1))).setCell ⟨gb1099, 2, none⟩ (.int .i64 ((rd_T166 l0_2 x33_1).f2))).heap[gb1095]? = some (.cells #[.int .i64 a0_0, .int .i64 a0_1, .slice (some ad1098) l0_2.length c0_2, .int .i64 a0_3, .slice A0_4 l0_4.length c0_4] 145 (0, 0))) := ⟨bf BK1095⟩
    have n1_ : Aside0 ((((w30.setCell ⟨gb1099, 0, none⟩ (.int .i64 ((rd_T166 l0_2 x33_1).f0))).setCell ⟨gb1099, 1, none⟩ (.int .i64 ((rd_T166 l0_2 x33_1).f1))).setCell ⟨gb1099, 2, none⟩ (.int .i64 ((rd_T166 l0_2 x33_1).f2))).heap[gb1099]? = some (.cells #[.int .i64 ((rd_T166 l0_2 x33_1).f0), .int .i64 ((rd_T166 l0_2 x33_1).f1), .int .i64 ((rd_T166 l0_2 x33_1).f2)] 166 (0, 0))) := ⟨bfp3 BK1099⟩
    have n2_ : Aside0 (Below w.heap.size w (((w30.setCell ⟨gb1099, 0, none⟩ (.int .i64 ((rd_T166 l0_2 x33_1).f0))).setCell ⟨gb1099, 1, none⟩ (.int .i64 ((rd_T166 l0_2 x33_1).f1))).setCell ⟨gb1099, 2, none⟩ (.int .i64 ((rd_T166 l0_2 x33_1).f2)))) := ⟨tb HB⟩
    (try clear BK1095)
    (try clear BK1099)
    (try clear HB)
    generalize (((w30.setCell ⟨gb1099, 0, none⟩ (.int .i64 ((rd_T166 l0_2 x33_1).f0))).setCell ⟨gb1099, 1, none⟩ (.int .i64 ((rd_T166 l0_2 x33_1).f1))).setCell ⟨gb1099, 2, none⟩ (.int .i64 ((rd_T166 l0_2 x33_1).f2))) = w33 at n0_ n1_ n2_ ⊢
    have BK1095 := n0_
    have BK1099 := n1_
    have HB := n2_
    clear n0_ n1_ n2_
    replace BK1095 := bd BK1095
    replace BK1099 := bd BK1099
    replace HB := Aside0.mk (below_drew1 HB.out)
    have p1103 : 0 ≤ ((ji26) : Int) := od
    have q1103 : (ji26) < (l0_2.length : Int) := od
    obtain ⟨ad1103, e1103, hx1103⟩ := att166 HR0_2.out (ji26) p1103 q1103
    have hw1103 := hx1103
    obtain rfl : ad1098 = ad1103 := (by injection e1103)
    replace hx1103 := ox3 HB hx1103
    replace p1103 := eq_true p1103
    replace q1103 := eq_true q1103
    refine start_ (n := 32) (S := fun w' => cS3 gb1099 (.int .i64 ((rd_T166 l0_2 x33_1).f0)) (.int .i64 ((rd_T166 l0_2 x33_1).f1)) (.int .i64 ((rd_T166 l0_2 x33_1).f2)) w' ∧ cS5 gb1095 (.int .i64 a0_0) (.int .i64 a0_1) (.slice (some ad1098) l0_2.length c0_2) (.int .i64 a0_3) (.slice A0_4 l0_4.length c0_4) w' ∧ eT166 (ad1098.add (((ji26)).toNat * 3)) (rd_T166 l0_2 (ji26)) w') (ds := []) #[false, false, false, false, false, false, false, false, false, false, false, false, false, false, false, false, false, false, false, false, false, false, false, false, false, false, false, false, false, false, false, false] (by kernel_rfl) rfl rfl ⟨ds3_ BK1099, ds5_ BK1095, (ox3 HB hw1103 :)⟩ (fun hHeld => ?_); refine with_tabW impl_DescOk.tab6 impl_DescOk.bits6 (fun HT_ HW_ => ?_)
    generalize w33.drew = w34 at BK1095 BK1099 HB hx1103 hHeld ⊢
    refine pu 0 38 ?_; refine ta 1 39 ?_
    refine on1 2 (some 40) (fun K hK => ?_)
    refine gS Try.func88 #[.int .i64 ((rd_T166 l0_2 x33_1).f0)] ?_
    with_reducible refine (impl_isPlace.calls ((rd_T166 l0_2 x33_1).f0) true _ A19.out).mono ?_
    rintro e w' ⟨rfl, ⟨nd, rfl⟩⟩
    refine ⟨_, rfl, ?_⟩
    refine hK.out _ _ ⟨ds3_ BK1099, ds5_ BK1095, (ox3 HB hw1103 :)⟩ (fun hHeld => ?_)
    clear hK K
    refine nm 40 ?_
    refine pu 3 41 ?_; refine pu 4 42 ?_; refine pu 5 43 ?_; refine ta 6 44 ?_
    refine on1 7 (some 45) (fun K hK => ?_)
    refine gS Try.func89 #[.int .i64 ((rd_T166 l0_2 x33_1).f1)] ?_
    with_reducible refine (impl_isWordNum.calls ((rd_T166 l0_2 x33_1).f1) true _ A21.out).mono ?_
    rintro e w' ⟨rfl, ⟨nd, rfl⟩⟩
    refine ⟨_, rfl, ?_⟩
    refine hK.out _ _ ⟨ds3_ BK1099, ds5_ BK1095, (ox3 HB hw1103 :)⟩ (fun hHeld => ?_)
    clear hK K
    refine nm 45 ?_
    refine pu 8 46 ?_; refine pu 9 47 ?_; refine pu 10 48 ?_; refine pu 11 49 ?_; refine ta 12 50 ?_
    refine on1 13 (some 51) (fun K hK => ?_)
    refine gS Try.func89 #[.int .i64 ((rd_T166 l0_2 x33_1).f2)] ?_
    with_reducible refine (impl_isWordNum.calls ((rd_T166 l0_2 x33_1).f2) true _ A23.out).mono ?_
    rintro e w' ⟨rfl, ⟨nd, rfl⟩⟩
    refine ⟨_, rfl, ?_⟩
    refine hK.out _ _ ⟨ds3_ BK1099, ds5_ BK1095, (ox3 HB hw1103 :)⟩ (fun hHeld => ?_)
    clear hK K
    refine nm 51 ?_
    refine pu 14 52 ?_; refine pu 15 53 ?_; refine pu 16 54 ?_; refine pu 17 55 ?_; refine pu 18 56 ?_; refine pu 19 57 ?_; refine pu 20 58 ?_; refine pu 22 60 ?_; refine pu 23 61 ?_; refine pu 27 65 ?_; refine ta 21 59 ?_; refine pu 24 62 ?_
    refine pu 25 63 ?_; refine ta 26 64 ?_; refine ta 28 66 ?_; refine pu 29 67 ?_; refine pu 30 68 ?_; refine pu 31 69 ?_
    refine done_ (done_of HT_.out (by kernel_rfl)) ?_
    try go_wp2
    go_ret
    exact ⟨by first | rfl | (simp [errW_none, errW_some] <;> rfl) | (simp only [← hji26]; first | rfl | (simp [errW_none, errW_some] <;> rfl)) | (simp [*, errW_none, errW_some] <;> rfl), tb HB⟩
   have H' := Aside0.mk H
   clear H
   have p1098 : 0 ≤ (x33_1 : Int) := od
   have q1098 : x33_1 < (l0_2.length : Int) := od
   obtain ⟨ad1098, e1098, hx1098_0, hx1098_1, hx1098_2⟩ := at_T166 HR0_2.out x33_1 p1098 q1098
   cases e1098
   replace hx1098_0 := ox HB hx1098_0
   replace hx1098_1 := ox HB hx1098_1
   replace hx1098_2 := ox HB hx1098_2
   replace p1098 := eq_true p1098
   replace q1098 := eq_true q1098
   try go_wp2_with (first | ((with_reducible refine gq 4 rfl ?_); (try (refine gate_guard (by rfl) ?_; dsimp only)); refine bx1 HB BK1095 (N := 4) (cs := #[.int .i64 0, .int .i64 0, .int .i64 0]) (t := 166) ?_; clear HB BK1095; intro gb1099 w35 BK1099 GE1099 HB NB1095_1099 NB1099_1095 BK1095; have hnb36 := NB1099_1095.out; have hnc36 := NB1095_1099.out; have hz37 := cs3_ BK1099))
   have n0_ : Aside0 ((((w35.setCell ⟨gb1099, 0, none⟩ (.int .i64 ((rd_T166 l0_2 x33_1).f0))).setCell ⟨gb1099, 1, none⟩ (.int .i64 ((rd_T166 l0_2 x33_1).f1))).setCell ⟨gb1099, 2, none⟩ (.int .i64 ((rd_T166 l0_2 x33_1).f2))).heap[gb1095]? = some (.cells #[.int .i64 a0_0, .int .i64 a0_1, .slice (some ad1098) l0_2.length c0_2, .int .i64 a0_3, .slice A0_4 l0_4.length c0_4] 145 (0, 0))) := ⟨bf BK1095⟩
   have n1_ : Aside0 ((((w35.setCell ⟨gb1099, 0, none⟩ (.int .i64 ((rd_T166 l0_2 x33_1).f0))).setCell ⟨gb1099, 1, none⟩ (.int .i64 ((rd_T166 l0_2 x33_1).f1))).setCell ⟨gb1099, 2, none⟩ (.int .i64 ((rd_T166 l0_2 x33_1).f2))).heap[gb1099]? = some (.cells #[.int .i64 ((rd_T166 l0_2 x33_1).f0), .int .i64 ((rd_T166 l0_2 x33_1).f1), .int .i64 ((rd_T166 l0_2 x33_1).f2)] 166 (0, 0))) := ⟨bfp3 BK1099⟩
   have n2_ : Aside0 (Below w.heap.size w (((w35.setCell ⟨gb1099, 0, none⟩ (.int .i64 ((rd_T166 l0_2 x33_1).f0))).setCell ⟨gb1099, 1, none⟩ (.int .i64 ((rd_T166 l0_2 x33_1).f1))).setCell ⟨gb1099, 2, none⟩ (.int .i64 ((rd_T166 l0_2 x33_1).f2)))) := ⟨tb HB⟩
   (try clear BK1095)
   (try clear BK1099)
   (try clear HB)
   generalize (((w35.setCell ⟨gb1099, 0, none⟩ (.int .i64 ((rd_T166 l0_2 x33_1).f0))).setCell ⟨gb1099, 1, none⟩ (.int .i64 ((rd_T166 l0_2 x33_1).f1))).setCell ⟨gb1099, 2, none⟩ (.int .i64 ((rd_T166 l0_2 x33_1).f2))) = w38 at n0_ n1_ n2_ ⊢
   have BK1095 := n0_
   have BK1099 := n1_
   have HB := n2_
   clear n0_ n1_ n2_
   replace BK1095 := bd BK1095
   replace BK1099 := bd BK1099
   replace HB := Aside0.mk (below_drew1 HB.out)
   have p1103 : 0 ≤ ((ji26) : Int) := od
   have q1103 : (ji26) < (l0_2.length : Int) := od
   obtain ⟨ad1103, e1103, hx1103⟩ := att166 HR0_2.out (ji26) p1103 q1103
   have hw1103 := hx1103
   obtain rfl : ad1098 = ad1103 := (by injection e1103)
   replace hx1103 := ox3 HB hx1103
   replace p1103 := eq_true p1103
   replace q1103 := eq_true q1103
   refine start_ (n := 32) (S := fun w' => cS3 gb1099 (.int .i64 ((rd_T166 l0_2 x33_1).f0)) (.int .i64 ((rd_T166 l0_2 x33_1).f1)) (.int .i64 ((rd_T166 l0_2 x33_1).f2)) w' ∧ cS5 gb1095 (.int .i64 a0_0) (.int .i64 a0_1) (.slice (some ad1098) l0_2.length c0_2) (.int .i64 a0_3) (.slice A0_4 l0_4.length c0_4) w' ∧ eT166 (ad1098.add (((ji26)).toNat * 3)) (rd_T166 l0_2 (ji26)) w') (ds := []) #[false, false, false, false, false, false, false, false, false, false, false, false, false, false, false, false, false, false, false, false, false, false, false, false, false, false, false, false, false, false, false, false] (by kernel_rfl) rfl rfl ⟨ds3_ BK1099, ds5_ BK1095, (ox3 HB hw1103 :)⟩ (fun hHeld => ?_); refine with_tabW impl_DescOk.tab6 impl_DescOk.bits6 (fun HT_ HW_ => ?_)
   generalize w38.drew = w39 at BK1095 BK1099 HB hx1103 hHeld ⊢
   refine pu 0 38 ?_; refine ta 1 39 ?_
   refine on1 2 (some 40) (fun K hK => ?_)
   refine gS Try.func88 #[.int .i64 ((rd_T166 l0_2 x33_1).f0)] ?_
   with_reducible refine (impl_isPlace.calls ((rd_T166 l0_2 x33_1).f0) true _ A19.out).mono ?_
   rintro e w' ⟨rfl, ⟨nd, rfl⟩⟩
   refine ⟨_, rfl, ?_⟩
   refine hK.out _ _ ⟨ds3_ BK1099, ds5_ BK1095, (ox3 HB hw1103 :)⟩ (fun hHeld => ?_)
   clear hK K
   refine nm 40 ?_
   refine pu 3 41 ?_; refine pu 4 42 ?_; refine pu 5 43 ?_; refine ta 6 44 ?_
   refine on1 7 (some 45) (fun K hK => ?_)
   refine gS Try.func89 #[.int .i64 ((rd_T166 l0_2 x33_1).f1)] ?_
   with_reducible refine (impl_isWordNum.calls ((rd_T166 l0_2 x33_1).f1) true _ A21.out).mono ?_
   rintro e w' ⟨rfl, ⟨nd, rfl⟩⟩
   refine ⟨_, rfl, ?_⟩
   refine hK.out _ _ ⟨ds3_ BK1099, ds5_ BK1095, (ox3 HB hw1103 :)⟩ (fun hHeld => ?_)
   clear hK K
   refine nm 45 ?_
   refine pu 8 46 ?_; refine pu 9 47 ?_; refine pu 10 48 ?_; refine pu 11 49 ?_; refine ta 12 50 ?_
   refine on1 13 (some 51) (fun K hK => ?_)
   refine gS Try.func89 #[.int .i64 ((rd_T166 l0_2 x33_1).f2)] ?_
   with_reducible refine (impl_isWordNum.calls ((rd_T166 l0_2 x33_1).f2) true _ A23.out).mono ?_
   rintro e w' ⟨rfl, ⟨nd, rfl⟩⟩
   refine ⟨_, rfl, ?_⟩
   refine hK.out _ _ ⟨ds3_ BK1099, ds5_ BK1095, (ox3 HB hw1103 :)⟩ (fun hHeld => ?_)
   clear hK K
   refine nm 51 ?_
   refine pu 14 52 ?_; refine pu 15 53 ?_; refine pu 16 54 ?_; refine pu 17 55 ?_; refine pu 18 56 ?_; refine pu 19 57 ?_; refine pu 20 58 ?_; refine pu 22 60 ?_; refine pu 23 61 ?_; refine pu 27 65 ?_; refine ta 21 59 ?_; refine pu 24 62 ?_
   refine pu 25 63 ?_; refine ta 26 64 ?_; refine ta 28 66 ?_; refine pu 29 67 ?_; refine pu 30 68 ?_; refine pu 31 69 ?_
   refine done_ (done_of HT_.out (by kernel_rfl)) ?_
   try go_wp2
   go_roundg k1
   case measure => have := HK1.out; omega
   case rel => exact ⟨(wrap64 (x33_1 + 1)), rsd, H', ⟨by have := HK1.out; omega⟩, ⟨by (with_reducible repeat (first | refine blk_drewN ?_ _ | refine blk_drew ?_ | refine blk_alloc ?_ _)); exact BK1095.out⟩, ⟨tb HB⟩⟩
end Go.Proofs.Ytopikhjcbcpiaaa.Q
