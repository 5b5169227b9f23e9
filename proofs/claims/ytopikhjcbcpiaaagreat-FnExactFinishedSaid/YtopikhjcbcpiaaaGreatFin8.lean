/- Part 8 of the steps by which the law is shown: what each function of the program, of the reference and of the law computes. No condition. -/
import Derived.Test.YtopikhjcbcpiaaaGreatFin0
import Derived.Test.YtopikhjcbcpiaaaGreatFin1
import Derived.Test.YtopikhjcbcpiaaaGreatFin2
import Derived.Test.YtopikhjcbcpiaaaGreatFin4
import Derived.Test.YtopikhjcbcpiaaaGreatFin5
import Derived.Test.YtopikhjcbcpiaaaGreatFin6
import Derived.Test.YtopikhjcbcpiaaaGreatFin7
namespace Go.Proofs.YtopikhjcbcpiaaaGreat.Q
open Go.RowKit Go.Proofs.YtopikhjcbcpiaaaGreatW.PrintWords Go.Proofs.YtopikhjcbcpiaaaGreatW.PrintLast Go.Proofs.YtopikhjcbcpiaaaGreatW.PrintMore
attribute [local go_sem] max2_int min2_int max_two min_two max_three min_three max_four min_four   -- for this text's walks alone
set_option linter.unusedVariables false
set_option linter.unusedSimpArgs false
def laws_szDescS.l0 : Nat → List (S201) → Int → Int → Option (Int)
 | 0, _, _, _ => none
 | k + 1, x0, x1, x5 => if x5 < (x0.length : Int) then (if 0 ≤ x5 then ((laws_szDesc.f ((rd_T201 x0 x5).f0) ((rd_T201 x0 x5).f1) ((rd_T201 x0 x5).f2) ((rd_T201 x0 x5).f3.f0) ((rd_T201 x0 x5).f3.f1) x1).bind fun t107 => (if t107 < 0 then (some (-1)) else (laws_szDescS.l0 k x0 t107 (wrap64 (x5 + 1))))) else (none)) else (some x1)
def laws_szDescS.f (k : Nat) (l0 : List (S201)) (a1 : Int) : Option (Int) := if (wrap64 (a1 - (l0.length : Int))) < 0 then (some (-1)) else (laws_szDescS.l0 k l0 (wrap64 (a1 - (l0.length : Int))) 0)
set_option maxHeartbeats 8000000 in
set_option maxRecDepth 100000 in
theorem laws_szDescS.calls (k : Nat) (A0 : Option Addr) (c0 : Nat) (l0 : List (S201)) (a1 : Int) (r : Int) (w : World) (hr0 : Kd.C k201 w A0 l0.length l0) (hc0 : l0.length ≤ c0) (h : laws_szDescS.f k l0 a1 = some r) :
  Calls Tryz.prog 136 #[.slice A0 l0.length c0, .int .i64 a1] w fun e w' => e = .returned (.int .i64 r) ∧ Below w.heap.size w w' := by
 have hu201 := Tryz.underlying201
 have HR0 := Aside0.mk hr0
 have HC0 := Aside0.mk hc0
 clear hr0 hc0
 have HB := Aside0.mk (Below.refl w.heap.size w)
 have H := h
 clear h
 unfold laws_szDescS.f at H
 revert H; refine icd (fun c3b0 H => ?pos) fun c3b0 H => ?_
 case pos =>
  obtain rfl := oin H
  go_enter Tryz.func136, Tryz.ntmps136
  go_wp2
  go_ret
  exact ⟨er, tb HB⟩
 have H' := Aside0.mk H
 clear H
 go_enter Tryz.func136, Tryz.ntmps136
 go_wp2
 go_loopg [1, 5] k (fun kq v1 v5 w' => ∃ (x1_1 : Int) (x5_1 : Int), v1 = .int .i64 x1_1 ∧ v5 = .int .i64 x5_1 ∧ Aside0 (laws_szDescS.l0 kq l0 x1_1 x5_1 = some r) ∧ Aside0 (kq ≤ k) ∧ Aside0 (Below w.heap.size w w'))
 case atStart => exact ⟨(wrap64 (a1 - (l0.length : Int))), (0), rsd, rsd, H', ⟨Nat.le_refl _⟩, ⟨tb HB⟩⟩
 case round =>
  clear H'
  obtain ⟨x1_1, x5_1, rfl, rfl, HA, HK1, HB⟩ := hrel
  cases gk with
  | zero => exact absurd HA.out (by simp [laws_szDescS.l0])
  | succ k1 =>
   have H := HA.out
   clear HA
   simp only [laws_szDescS.l0] at H
   revert H; refine icd (fun c4b0 H => ?_) fun c4b0 H => ?neg
   case neg =>
    obtain rfl := oin H
    go_wp2
    go_ret
    exact ⟨er, tb HB⟩
   obtain ⟨c5b0, H⟩ := itd H
   obtain ⟨t107, A6, H⟩ := bn H
   try dsimp only at H
   revert H; refine icd (fun c7b0 H => ?_) fun c7b0 H => ?neg
   case neg =>
    have H' := Aside0.mk H
    clear H
    have p106 : 0 ≤ (x5_1 : Int) := od
    have q106 : x5_1 < (l0.length : Int) := od
    obtain ⟨ad106, A106_2, c106_2, A106_4, c106_4, e106, hx106, hl106_2, hi106_2, hl106_4, hi106_4⟩ := att201 HR0.out x5_1 p106 q106
    cases e106
    replace hx106 := ox5 HB hx106
    have HR106_2 := Aside0.mk hi106_2
    have HC106_2 := Aside0.mk hl106_2
    clear hi106_2 hl106_2
    have HR106_4 := Aside0.mk hi106_4
    have HC106_4 := Aside0.mk hl106_4
    clear hi106_4 hl106_4
    replace p106 := eq_true p106
    replace q106 := eq_true q106
    go_wp2_with (first | ((with_reducible refine gf 169 rfl ?_); refine gL 23 Tryz.func169 #[.agg #[.int .i64 ((rd_T201 l0 x5_1).f0), .int .i64 ((rd_T201 l0 x5_1).f1), .slice A106_2 ((rd_T201 l0 x5_1).f2).length c106_2, .int .i64 ((rd_T201 l0 x5_1).f3.f0), .slice A106_4 ((rd_T201 l0 x5_1).f3.f1).length c106_4], .int .i64 x1_1] ?_; (with_reducible refine (laws_szDesc.calls ((rd_T201 l0 x5_1).f0) ((rd_T201 l0 x5_1).f1) _ _ ((rd_T201 l0 x5_1).f2) ((rd_T201 l0 x5_1).f3.f0) _ _ ((rd_T201 l0 x5_1).f3.f1) x1_1 t107 _ (kc HR106_2 HB) HC106_2.out (kc HR106_4 HB) HC106_4.out A6.out).mono ?_); rintro e w9 ⟨rfl, hb⟩; refine ⟨_, rfl, ?_⟩; replace HB := bs HB hb; (try clear hb)))
    go_roundg k1
    case measure => have := HK1.out; omega
    case rel => exact ⟨(t107), (wrap64 (x5_1 + 1)), rsd, rsd, H', ⟨by have := HK1.out; omega⟩, ⟨tb HB⟩⟩
   obtain rfl := oin H
   have p106 : 0 ≤ (x5_1 : Int) := od
   have q106 : x5_1 < (l0.length : Int) := od
   obtain ⟨ad106, A106_2, c106_2, A106_4, c106_4, e106, hx106_0, hx106_1, hx106_2, hx106_3, hx106_4, hl106_2, hi106_2, hl106_4, hi106_4⟩ := at_T201 HR0.out x5_1 p106 q106
   cases e106
   replace hx106_0 := ox HB hx106_0
   replace hx106_1 := ox HB hx106_1
   replace hx106_2 := ox HB hx106_2
   replace hx106_3 := ox HB hx106_3
   replace hx106_4 := ox HB hx106_4
   have HR106_2 := Aside0.mk hi106_2
   have HC106_2 := Aside0.mk hl106_2
   clear hi106_2 hl106_2
   have HR106_4 := Aside0.mk hi106_4
   have HC106_4 := Aside0.mk hl106_4
   clear hi106_4 hl106_4
   replace p106 := eq_true p106
   replace q106 := eq_true q106
   go_wp2_with (first | ((with_reducible refine gf 169 rfl ?_); refine gL 23 Tryz.func169 #[.agg #[.int .i64 ((rd_T201 l0 x5_1).f0), .int .i64 ((rd_T201 l0 x5_1).f1), .slice A106_2 ((rd_T201 l0 x5_1).f2).length c106_2, .int .i64 ((rd_T201 l0 x5_1).f3.f0), .slice A106_4 ((rd_T201 l0 x5_1).f3.f1).length c106_4], .int .i64 x1_1] ?_; (with_reducible refine (laws_szDesc.calls ((rd_T201 l0 x5_1).f0) ((rd_T201 l0 x5_1).f1) _ _ ((rd_T201 l0 x5_1).f2) ((rd_T201 l0 x5_1).f3.f0) _ _ ((rd_T201 l0 x5_1).f3.f1) x1_1 t107 _ (kc HR106_2 HB) HC106_2.out (kc HR106_4 HB) HC106_4.out A6.out).mono ?_); rintro e w8 ⟨rfl, hb⟩; refine ⟨_, rfl, ?_⟩; replace HB := bs HB hb; (try clear hb)))
   go_ret
   exact ⟨er, tb HB⟩
def laws_szCallS.l0 : Nat → List (S176) → Int → Int → Option (Int)
 | 0, _, _, _ => none
 | k + 1, x0, x1, x5 => if x5 < (x0.length : Int) then (if 0 ≤ x5 then ((laws_szCall.f ((rd_T176 x0 x5).f0) ((rd_T176 x0 x5).f1.f0) ((rd_T176 x0 x5).f1.f1) ((rd_T176 x0 x5).f1.f2) ((rd_T176 x0 x5).f2) ((rd_T176 x0 x5).f3) ((rd_T176 x0 x5).f4) ((rd_T176 x0 x5).f5.f0) ((rd_T176 x0 x5).f5.f1) x1).bind fun t120 => (if t120 < 0 then (some (-1)) else (laws_szCallS.l0 k x0 t120 (wrap64 (x5 + 1))))) else (none)) else (some x1)
def laws_szCallS.f (k : Nat) (l0 : List (S176)) (a1 : Int) : Option (Int) := if (wrap64 (a1 - (l0.length : Int))) < 0 then (some (-1)) else (laws_szCallS.l0 k l0 (wrap64 (a1 - (l0.length : Int))) 0)
set_option maxHeartbeats 8000000 in
set_option maxRecDepth 100000 in
theorem laws_szCallS.calls (k : Nat) (A0 : Option Addr) (c0 : Nat) (l0 : List (S176)) (a1 : Int) (r : Int) (w : World) (hr0 : Kd.C k176 w A0 l0.length l0) (hc0 : l0.length ≤ c0) (h : laws_szCallS.f k l0 a1 = some r) :
  Calls Tryz.prog 82 #[.slice A0 l0.length c0, .int .i64 a1] w fun e w' => e = .returned (.int .i64 r) ∧ Below w.heap.size w w' := by
 have hu176 := Tryz.underlying176
 have HR0 := Aside0.mk hr0
 have HC0 := Aside0.mk hc0
 clear hr0 hc0
 have HB := Aside0.mk (Below.refl w.heap.size w)
 have H := h
 clear h
 unfold laws_szCallS.f at H
 revert H; refine icd (fun c3b0 H => ?pos) fun c3b0 H => ?_
 case pos =>
  obtain rfl := oin H
  go_enter Tryz.func82, Tryz.ntmps82
  go_wp2
  go_ret
  exact ⟨er, tb HB⟩
 have H' := Aside0.mk H
 clear H
 go_enter Tryz.func82, Tryz.ntmps82
 go_wp2
 go_loopg [1, 5] k (fun kq v1 v5 w' => ∃ (x1_1 : Int) (x5_1 : Int), v1 = .int .i64 x1_1 ∧ v5 = .int .i64 x5_1 ∧ Aside0 (laws_szCallS.l0 kq l0 x1_1 x5_1 = some r) ∧ Aside0 (kq ≤ k) ∧ Aside0 (Below w.heap.size w w'))
 case atStart => exact ⟨(wrap64 (a1 - (l0.length : Int))), (0), rsd, rsd, H', ⟨Nat.le_refl _⟩, ⟨tb HB⟩⟩
 case round =>
  clear H'
  obtain ⟨x1_1, x5_1, rfl, rfl, HA, HK1, HB⟩ := hrel
  cases gk with
  | zero => exact absurd HA.out (by simp [laws_szCallS.l0])
  | succ k1 =>
   have H := HA.out
   clear HA
   simp only [laws_szCallS.l0] at H
   revert H; refine icd (fun c4b0 H => ?_) fun c4b0 H => ?neg
   case neg =>
    obtain rfl := oin H
    go_wp2
    go_ret
    exact ⟨er, tb HB⟩
   obtain ⟨c5b0, H⟩ := itd H
   obtain ⟨t120, A6, H⟩ := bn H
   try dsimp only at H
   revert H; refine icd (fun c7b0 H => ?_) fun c7b0 H => ?neg
   case neg =>
    have H' := Aside0.mk H
    clear H
    have p119 : 0 ≤ (x5_1 : Int) := od
    have q119 : x5_1 < (l0.length : Int) := od
    obtain ⟨ad119, A119_8, c119_8, e119, hx119, hl119_8, hi119_8⟩ := att176 HR0.out x5_1 p119 q119
    cases e119
    replace hx119 := ox9 HB hx119
    have HR119_8 := Aside0.mk hi119_8
    have HC119_8 := Aside0.mk hl119_8
    clear hi119_8 hl119_8
    replace p119 := eq_true p119
    replace q119 := eq_true q119
    go_wp2_with (first | ((with_reducible refine gf 138 rfl ?_); refine gL 23 Tryz.func138 #[.agg #[.int .i64 ((rd_T176 l0 x5_1).f0), .int .i64 ((rd_T176 l0 x5_1).f1.f0), .int .i64 ((rd_T176 l0 x5_1).f1.f1), .int .i64 ((rd_T176 l0 x5_1).f1.f2), .int .i64 ((rd_T176 l0 x5_1).f2), .int .i64 ((rd_T176 l0 x5_1).f3), .int .i64 ((rd_T176 l0 x5_1).f4), .int .i64 ((rd_T176 l0 x5_1).f5.f0), .slice A119_8 ((rd_T176 l0 x5_1).f5.f1).length c119_8], .int .i64 x1_1] ?_; (with_reducible refine (laws_szCall.calls ((rd_T176 l0 x5_1).f0) ((rd_T176 l0 x5_1).f1.f0) ((rd_T176 l0 x5_1).f1.f1) ((rd_T176 l0 x5_1).f1.f2) ((rd_T176 l0 x5_1).f2) ((rd_T176 l0 x5_1).f3) ((rd_T176 l0 x5_1).f4) ((rd_T176 l0 x5_1).f5.f0) _ _ ((rd_T176 l0 x5_1).f5.f1) x1_1 t120 _ (kc HR119_8 HB) HC119_8.out A6.out).mono ?_); rintro e w9 ⟨rfl, hb⟩; refine ⟨_, rfl, ?_⟩; replace HB := bs HB hb; (try clear hb)))
    go_roundg k1
    case measure => have := HK1.out; omega
    case rel => exact ⟨(t120), (wrap64 (x5_1 + 1)), rsd, rsd, H', ⟨by have := HK1.out; omega⟩, ⟨tb HB⟩⟩
   obtain rfl := oin H
   have p119 : 0 ≤ (x5_1 : Int) := od
   have q119 : x5_1 < (l0.length : Int) := od
   obtain ⟨ad119, A119_8, c119_8, e119, hx119_0, hx119_1, hx119_2, hx119_3, hx119_4, hx119_5, hx119_6, hx119_7, hx119_8, hl119_8, hi119_8⟩ := at_T176 HR0.out x5_1 p119 q119
   cases e119
   replace hx119_0 := ox HB hx119_0
   replace hx119_1 := ox HB hx119_1
   replace hx119_2 := ox HB hx119_2
   replace hx119_3 := ox HB hx119_3
   replace hx119_4 := ox HB hx119_4
   replace hx119_5 := ox HB hx119_5
   replace hx119_6 := ox HB hx119_6
   replace hx119_7 := ox HB hx119_7
   replace hx119_8 := ox HB hx119_8
   have HR119_8 := Aside0.mk hi119_8
   have HC119_8 := Aside0.mk hl119_8
   clear hi119_8 hl119_8
   replace p119 := eq_true p119
   replace q119 := eq_true q119
   go_wp2_with (first | ((with_reducible refine gf 138 rfl ?_); refine gL 23 Tryz.func138 #[.agg #[.int .i64 ((rd_T176 l0 x5_1).f0), .int .i64 ((rd_T176 l0 x5_1).f1.f0), .int .i64 ((rd_T176 l0 x5_1).f1.f1), .int .i64 ((rd_T176 l0 x5_1).f1.f2), .int .i64 ((rd_T176 l0 x5_1).f2), .int .i64 ((rd_T176 l0 x5_1).f3), .int .i64 ((rd_T176 l0 x5_1).f4), .int .i64 ((rd_T176 l0 x5_1).f5.f0), .slice A119_8 ((rd_T176 l0 x5_1).f5.f1).length c119_8], .int .i64 x1_1] ?_; (with_reducible refine (laws_szCall.calls ((rd_T176 l0 x5_1).f0) ((rd_T176 l0 x5_1).f1.f0) ((rd_T176 l0 x5_1).f1.f1) ((rd_T176 l0 x5_1).f1.f2) ((rd_T176 l0 x5_1).f2) ((rd_T176 l0 x5_1).f3) ((rd_T176 l0 x5_1).f4) ((rd_T176 l0 x5_1).f5.f0) _ _ ((rd_T176 l0 x5_1).f5.f1) x1_1 t120 _ (kc HR119_8 HB) HC119_8.out A6.out).mono ?_); rintro e w8 ⟨rfl, hb⟩; refine ⟨_, rfl, ?_⟩; replace HB := bs HB hb; (try clear hb)))
   go_ret
   exact ⟨er, tb HB⟩
def laws_toDescS.l0 : Nat → List (S201) → List (S52) → Int → Option ((List (S52)))
 | 0, _, _, _ => none
 | k + 1, x0, x3, x4 => if x4 < (x0.length : Int) then (if 0 ≤ x4 then ((laws_toDesc.f k ((rd_T201 x0 x4).f0) ((rd_T201 x0 x4).f1) ((rd_T201 x0 x4).f2) ((rd_T201 x0 x4).f3.f0) ((rd_T201 x0 x4).f3.f1)).bind fun bt278 => (if x4 < (x3.length : Int) then (laws_toDescS.l0 k x0 (x3.set (x4 : Int).toNat (⟨bt278.1, bt278.2.1, bt278.2.2.1, (⟨bt278.2.2.2.1, bt278.2.2.2.2⟩ : S31)⟩ : S52)) (wrap64 (x4 + 1))) else (none))) else (none)) else (some x3)
def laws_toDescS.f (k : Nat) (l0 : List (S201)) : Option ((List (S52))) := if 0 ≤ (l0.length : Int) then (if ((l0.length : Int) : Int).toNat ≤ 3909374676536 then (laws_toDescS.l0 k l0 (List.replicate ((l0.length : Int) : Int).toNat z52) 0) else (none)) else (none)
set_option maxHeartbeats 8000000 in
set_option maxRecDepth 100000 in
theorem laws_toDescS.calls (k : Nat) (A0 : Option Addr) (c0 : Nat) (l0 : List (S201)) (r : List (S52)) (w : World) (hr0 : Kd.C k201 w A0 l0.length l0) (hc0 : l0.length ≤ c0) (h : laws_toDescS.f k l0 = some r) :
  Calls Tryz.prog 145 #[.slice A0 l0.length c0] w fun e w' => ∃ v0_ : Value, e = .returned (v0_) ∧ Kd.S k52 52 w' w.heap.size (fun _ => True) v0_ r ∧ Below w.heap.size w w' := by
 have hu201 := Tryz.underlying201
 have hu52 := Tryz.underlying52
 have HR0 := Aside0.mk hr0
 have HC0 := Aside0.mk hc0
 clear hr0 hc0
 have HB := Aside0.mk (Below.refl w.heap.size w)
 have H := h
 clear h
 unfold laws_toDescS.f at H
 obtain ⟨c2b0, c2b1, H⟩ := itb H
 obtain ⟨c3b0, c3b1, H⟩ := itb H
 obtain ⟨y274, hy274⟩ : ∃ y_ : List (S52), y_ = (List.replicate ((l0.length : Int) : Int).toNat z52) := ⟨_, rfl⟩
 replace H : (laws_toDescS.l0 k l0 y274 0) = some r := by first | (rw [hy274]; with_reducible exact H) | (have H2_ := (Option.bind_some _ _).symm.trans H; rw [hy274]; with_reducible exact H2_) | (have H2_ := (Option.bind_some _ _).symm.trans H; with_reducible exact H2_) | with_reducible exact H | (rw [hy274]; exact H) | exact H
 have Ny274 := Aside0.mk hy274
 clear hy274
 have H' := Aside0.mk H
 clear H
 go_enter Tryz.func145, Tryz.ntmps145
 go_wp2_with (first | ((with_reducible refine gq 7 rfl ?_); refine Kd.S_make k52 _ 52 rfl (N := 7) rfl 25 _ _ rfl (l0.length : Int) rfl rfl Tryz.underlying25 (.agg #[(.int .i64 0), (.int .i64 0), (.slice none 0 0), (.int .i64 0), (.slice none 0 0)]) 72 info52 rfl (by decide) (by omega) z52 (ok := fun _ => True) (okp := fun _ => True) (k52_mkM _ _ _ z52 (Kd.R_nil _ _ _ _ _) (Kd.R_nil _ _ _ _ _)) (fun _ hk => hk) trivial (od) (Nat.le_trans (Nat.mul_le_mul_right _ (od : (l0.length : Int).toNat ≤ 3909374676536)) (by omega)) (Below.refl _ _) (Nat.le_refl _) ?_; intro v275 w4 ho5 hb hg_ hnew_; clear hg_ hnew_; (first | rw [← Ny274.out] at ho5 | (simp only [Int.reduceToNat] at ho5; rw [← Ny274.out] at ho5)); have HO276 := Aside0.mk (Kd.S_lower ho5 (below_size (tb HB))); replace HB := bs HB hb; clear hb ho5))
 go_loopg [4] k (fun kq v4 w' => ∃ (x3_1 : List (S52)) (x4_1 : Int), v4 = .int .i64 x4_1 ∧ Aside0 (laws_toDescS.l0 kq l0 x3_1 x4_1 = some r) ∧ Aside0 (kq ≤ k) ∧ Aside0 (Kd.S k52 52 w' w.heap.size (fun _ => True) v275 x3_1) ∧ Aside0 (Below w.heap.size w w'))
 case atStart => exact ⟨(y274), (0), rsd, H', ⟨Nat.le_refl _⟩, ⟨by (with_reducible repeat (first | apply Kd.S_alloc | apply Kd.S_drewN | apply Kd.S_drew)); exact HO276.out⟩, ⟨tb HB⟩⟩
 case round =>
  clear H'
  obtain ⟨x3_1, x4_1, rfl, HA, HK1, HO_3, HB⟩ := hrel
  cases gk with
  | zero => exact absurd HA.out (by simp [laws_toDescS.l0])
  | succ k1 =>
   have H := HA.out
   clear HA
   simp only [laws_toDescS.l0] at H
   revert H; refine icd (fun c6b0 H => ?_) fun c6b0 H => ?neg
   case neg =>
    obtain rfl := oin H
    go_wp2
    go_ret
    exact ⟨_, er, by (with_reducible repeat (first | apply Kd.S_alloc | apply Kd.S_drewN | apply Kd.S_drew)); exact HO_3.out, tb HB⟩
   obtain ⟨c7b0, H⟩ := itd H
   obtain ⟨⟨t278, t279, t280, t283, t284⟩, A8, H⟩ := bn H
   try dsimp only at H
   obtain ⟨c9b0, H⟩ := itd H
   obtain ⟨y287, hy287⟩ : ∃ y_ : List (S52), y_ = (x3_1.set (x4_1 : Int).toNat (⟨t278, t279, t280, (⟨t283, t284⟩ : S31)⟩ : S52)) := ⟨_, rfl⟩
   replace H : (laws_toDescS.l0 k1 l0 y287 (wrap64 (x4_1 + 1))) = some r := by first | (rw [hy287]; with_reducible exact H) | (have H2_ := (Option.bind_some _ _).symm.trans H; rw [hy287]; with_reducible exact H2_) | (have H2_ := (Option.bind_some _ _).symm.trans H; with_reducible exact H2_) | with_reducible exact H | (rw [hy287]; exact H) | exact H
   have Ny287 := Aside0.mk hy287
   clear hy287
   have H' := Aside0.mk H
   clear H
   have p277 : 0 ≤ (x4_1 : Int) := od
   have q277 : x4_1 < (l0.length : Int) := od
   obtain ⟨ad277, A277_2, c277_2, A277_4, c277_4, e277, hx277, hl277_2, hi277_2, hl277_4, hi277_4⟩ := att201 HR0.out x4_1 p277 q277
   cases e277
   replace hx277 := ox5 HB hx277
   have HR277_2 := Aside0.mk hi277_2
   have HC277_2 := Aside0.mk hl277_2
   clear hi277_2 hl277_2
   have HR277_4 := Aside0.mk hi277_4
   have HC277_4 := Aside0.mk hl277_4
   clear hi277_4 hl277_4
   replace p277 := eq_true p277
   replace q277 := eq_true q277
   go_wp2_with (first | ((with_reducible refine gf 175 rfl ?_); refine gL 20 Tryz.func175 #[.agg #[.int .i64 ((rd_T201 l0 x4_1).f0), .int .i64 ((rd_T201 l0 x4_1).f1), .slice A277_2 ((rd_T201 l0 x4_1).f2).length c277_2, .int .i64 ((rd_T201 l0 x4_1).f3.f0), .slice A277_4 ((rd_T201 l0 x4_1).f3.f1).length c277_4]] ?_; (with_reducible refine (laws_toDesc.calls k1 ((rd_T201 l0 x4_1).f0) ((rd_T201 l0 x4_1).f1) _ _ ((rd_T201 l0 x4_1).f2) ((rd_T201 l0 x4_1).f3.f0) _ _ ((rd_T201 l0 x4_1).f3.f1) t278 t279 t280 t283 t284 _ (kc HR277_2 HB) HC277_2.out (kc HR277_4 HB) HC277_4.out A8.out).mono ?_); rintro e w11 ⟨v281, v285, rfl, ho0, ho1, hb⟩; refine ⟨_, rfl, ?_⟩; replace HO_3 := Aside0.mk (Kd.S_mono (Kd.S_told (Kd.S_told (Kd.S_old (by (with_reducible repeat (first | apply Kd.S_alloc | apply Kd.S_drewN | apply Kd.S_drew)); exact HO_3.out) hb) (Kd.R_base ho0)) (Kd.R_base ho1)) (fun _ h_ => h_.1)); have HO282 := Aside0.mk (Kd.R_lower ho0 (below_size (tb HB))); have HO286 := Aside0.mk (Kd.R_lower ho1 (below_size (tb HB))); replace HB := bs HB hb; (try clear hb); (try clear ho0); (try clear ho1); have p10 : 0 ≤ (x4_1 : Int) := od; have q10 : (x4_1 : Int) < ((x3_1.length : Int) : Int) := od; obtain ⟨go10, co10, eo10, gb10, gl10, cl10, HG10⟩ := Kd.S_form HO_3.out (by omega); (first | cases eo10 | (injection eo10 with ea_ en_ ec_; (first | subst ea_ | (injection ea_ with ea_; subst ea_)); subst ec_; clear en_)); have GB10 := Aside0.mk gb10; have GG10 := Aside0.mk HG10; clear gb10 gl10 HG10; obtain ⟨_, ce10, hcl10, hM10, hcc10, hfr10, _, _⟩ := Kd.S_elem HO_3.out z52 (x4_1 : Int) p10 q10; obtain ⟨ve10_2, ve10_4, rfl, ge10_2, ge10_4⟩ := k52_openM hM10; have hx10_0 : w11.cell? ⟨go10, (x4_1 : Int).toNat * 5, none⟩ = some (.int .i64 ((rd_T52 x3_1 x4_1).f0)) := hcc10 0 _ rfl; have hx10_1 : w11.cell? ⟨go10, (x4_1 : Int).toNat * 5 + 1, none⟩ = some (.int .i64 ((rd_T52 x3_1 x4_1).f1)) := hcc10 1 _ rfl; have hx10_2 : w11.cell? ⟨go10, (x4_1 : Int).toNat * 5 + 2, none⟩ = some (ve10_2) := hcc10 2 _ rfl; have hx10_3 : w11.cell? ⟨go10, (x4_1 : Int).toNat * 5 + 3, none⟩ = some (.int .i64 ((rd_T52 x3_1 x4_1).f3.f0)) := hcc10 3 _ rfl; have hx10_4 : w11.cell? ⟨go10, (x4_1 : Int).toNat * 5 + 4, none⟩ = some (ve10_4) := hcc10 4 _ rfl; have hf10_0 : w11.frozen? ⟨go10, (x4_1 : Int).toNat * 5, none⟩ = false := hfr10 0; have hf10_1 : w11.frozen? ⟨go10, (x4_1 : Int).toNat * 5 + 1, none⟩ = false := hfr10 1; have hf10_2 : w11.frozen? ⟨go10, (x4_1 : Int).toNat * 5 + 2, none⟩ = false := hfr10 2; have hf10_3 : w11.frozen? ⟨go10, (x4_1 : Int).toNat * 5 + 3, none⟩ = false := hfr10 3; have hf10_4 : w11.frozen? ⟨go10, (x4_1 : Int).toNat * 5 + 4, none⟩ = false := hfr10 4; clear hcl10 hcc10 hfr10 hM10; replace p10 := eq_true p10; replace q10 := eq_true q10; obtain ⟨Ao14, co14, eo14⟩ := Kd.R_slice HO282.out; subst eo14; obtain ⟨Ao15, co15, eo15⟩ := Kd.R_slice HO286.out; subst eo15; have n_ := Aside0.mk (Kd.S_mono (ok' := (fun k_ => some k_ ≠ (.slice Ao14 t280.length co14 : Value).ownBlock ∧ some k_ ≠ (.slice Ao15 t284.length co15 : Value).ownBlock)) HO_3.out (fun k_ hk => ⟨hk.1.2, hk.2⟩)); clear HO_3; have HO_3 := n_; clear n_; have HX12 := Aside0.mk (show Kd.S k52 52 w11 w.heap.size (fun k_ => ((fun _ => True)) k_ ∧ ¬ ((fun k_ => some k_ = (.slice Ao14 t280.length co14 : Value).ownBlock ∨ some k_ = (.slice Ao15 t284.length co15 : Value).ownBlock)) k_) (.slice (some ⟨go10, 0, none⟩) x3_1.length co10) x3_1 from (by (with_reducible repeat (first | apply Kd.S_alloc | apply Kd.S_drewN | apply Kd.S_drew)); exact Kd.S_mono HO_3.out (fun k_ hk => ⟨trivial, fun e_ => e_.elim (fun h_ => hk.1 h_) (fun h_ => hk.2 h_)⟩))); obtain ⟨oki12, ce12, hcl12, hM12, hcc12, hfr12, hoki12, hH12⟩ := Kd.S_elem HX12.out z52 (x4_1 : Int) (od) (by have h_ : (x4_1 : Int) < ((x3_1.length : Int) : Int) := od; first | exact h_ | (have e_ := (Kd.S_reads' HO_3.out).1; omega) | simpa using h_); obtain ⟨ve12_2, ve12_4, rfl, ge12_2, ge12_4⟩ := k52_openM hM12; have HP12 := Kd.S_seg hH12 (od) (by have h_ : (x4_1 : Int) < ((x3_1.length : Int) : Int) := od; first | exact h_ | (have e_ := (Kd.S_reads' HO_3.out).1; omega) | simpa using h_) (seg := [.int .i64 t278, .int .i64 t279, .slice Ao14 t280.length co14, .int .i64 t283, .slice Ao15 t284.length co15]) (j := 0) (show 5 ≤ 5 from by decide) (x' := (⟨t278, t279, t280, (⟨t283, t284⟩ : S31)⟩ : S52)) (k52_mkM _ _ _ (⟨t278, t279, t280, (⟨t283, t284⟩ : S31)⟩ : S52) (Kd.R_mono (Kd.R_tight rfl (Kd.R_mono (ok' := fun k_ => ((fun _ => True)) k_ ∧ k_ ≠ go10) (Kd.R_apart' (HO282.out) (Kd.S_typed HO_3.out) (by decide)) (fun k_ hk => ⟨trivial, fun e_ => (hk.2) (by rw [e_]; rfl)⟩))) (fun _ h_ => Or.inr (Or.inl h_))) (Kd.R_mono (Kd.R_tight rfl (Kd.R_mono (ok' := fun k_ => ((fun _ => True)) k_ ∧ k_ ≠ go10) (Kd.R_apart' (HO286.out) (Kd.S_typed HO_3.out) (by decide)) (fun k_ hk => ⟨trivial, fun e_ => (hk.2) (by rw [e_]; rfl)⟩))) (fun _ h_ => Or.inr (Or.inr (h_))))) (fun _ hk => hk) (fun k_ hk_ => hk_.elim (fun h_ => ((Kd.R_mono (ok' := fun k_ => ((fun _ => True)) k_ ∧ k_ ≠ go10) (Kd.R_apart' (HO282.out) (Kd.S_typed HO_3.out) (by decide)) (fun k_ hk => ⟨trivial, fun e_ => (hk.2) (by rw [e_]; rfl)⟩))).1 k_ h_.symm) (fun h_ => ((Kd.R_mono (ok' := fun k_ => ((fun _ => True)) k_ ∧ k_ ≠ go10) (Kd.R_apart' (HO286.out) (Kd.S_typed HO_3.out) (by decide)) (fun k_ hk => ⟨trivial, fun e_ => (hk.2) (by rw [e_]; rfl)⟩))).1 k_ h_.symm)); have hx12_0 := hcc12 0 _ rfl; (try simp only [show (k52).sz = 5 from rfl, Nat.mul_one, Nat.add_zero] at hx12_0); have hf12_0 := hfr12 0; (try simp only [show (k52).sz = 5 from rfl, Nat.mul_one, Nat.add_zero] at hf12_0); have hx12_1 := hcc12 1 _ rfl; (try simp only [show (k52).sz = 5 from rfl, Nat.mul_one, Nat.add_zero] at hx12_1); have hf12_1 := hfr12 1; (try simp only [show (k52).sz = 5 from rfl, Nat.mul_one, Nat.add_zero] at hf12_1); have hx12_2 := hcc12 2 _ rfl; (try simp only [show (k52).sz = 5 from rfl, Nat.mul_one, Nat.add_zero] at hx12_2); have hf12_2 := hfr12 2; (try simp only [show (k52).sz = 5 from rfl, Nat.mul_one, Nat.add_zero] at hf12_2); have hx12_3 := hcc12 3 _ rfl; (try simp only [show (k52).sz = 5 from rfl, Nat.mul_one, Nat.add_zero] at hx12_3); have hf12_3 := hfr12 3; (try simp only [show (k52).sz = 5 from rfl, Nat.mul_one, Nat.add_zero] at hf12_3); have hx12_4 := hcc12 4 _ rfl; (try simp only [show (k52).sz = 5 from rfl, Nat.mul_one, Nat.add_zero] at hx12_4); have hf12_4 := hfr12 4; (try simp only [show (k52).sz = 5 from rfl, Nat.mul_one, Nat.add_zero] at hf12_4); clear hcl12 hcc12 hfr12 hM12 hoki12 hH12) | ((with_reducible refine gate_store (t := 52) (p := 21) rfl ?_); refine store_event (t := 52) (p := 21) (v := ?vo_w13) (w1 := (((((w11.setCell ⟨go10, (x4_1 : Int).toNat * 5, none⟩ (.int .i64 t278)).setCell ⟨go10, (x4_1 : Int).toNat * 5 + 1, none⟩ (.int .i64 t279)).setCell ⟨go10, (x4_1 : Int).toNat * 5 + 2, none⟩ (.slice Ao14 t280.length co14)).setCell ⟨go10, (x4_1 : Int).toNat * 5 + 3, none⟩ (.int .i64 t283)).setCell ⟨go10, (x4_1 : Int).toNat * 5 + 4, none⟩ (.slice Ao15 t284.length co15))) ?hg ?ho ?hn ?hr ?_; (case ho => rfl); (case hg => rfl); (case hn => rfl); (case hr => first | (go_simp; done) | (go_simp; rfl)); intro w13 hw; have hg : w11.grownBy w13 (some go10) := (by rw [hw]; exact HP12.2); have hp_ : Kd.S k52 52 w13 w.heap.size (fun _ => True) (.slice (some ⟨go10, 0, none⟩) x3_1.length co10) y287 := (by rw [hw, Ny287.out]; exact HP12.1); clear HP12; replace HO_3 := Aside0.mk (hp_); replace HB := Aside0.mk ((by rw [hw]; exact below_set (below_set (below_set (below_set (below_set (HB.out) GB10.out) GB10.out) GB10.out) GB10.out) GB10.out : Below w.heap.size w w13)); clear HO282 HO286; clear hg hw hp_))
   go_roundg k1
   case measure => have := HK1.out; omega
   case rel => exact ⟨(y287), (wrap64 (x4_1 + 1)), rsd, H', ⟨by have := HK1.out; omega⟩, ⟨by (with_reducible repeat (first | apply Kd.S_alloc | apply Kd.S_drewN | apply Kd.S_drew)); exact HO_3.out⟩, ⟨tb HB⟩⟩
def laws_toThreadS.l0 : Nat → List (S171) → List (S82) → Int → Option ((List (S82)))
 | 0, _, _, _ => none
 | k + 1, x0, x3, x4 => if x4 < (x0.length : Int) then (if 0 ≤ x4 then ((laws_toThread.f k ((rd_T171 x0 x4).f0) ((rd_T171 x0 x4).f1) ((rd_T171 x0 x4).f2) ((rd_T171 x0 x4).f3) ((rd_T171 x0 x4).f4)).bind fun bt346 => (if x4 < (x3.length : Int) then (laws_toThreadS.l0 k x0 (x3.set (x4 : Int).toNat (⟨bt346.1, bt346.2.1, bt346.2.2.1, bt346.2.2.2.1, bt346.2.2.2.2⟩ : S82)) (wrap64 (x4 + 1))) else (none))) else (none)) else (some x3)
def laws_toThreadS.f (k : Nat) (l0 : List (S171)) : Option ((List (S82))) := if 0 ≤ (l0.length : Int) then (if ((l0.length : Int) : Int).toNat ≤ 3198579280802 then (laws_toThreadS.l0 k l0 (List.replicate ((l0.length : Int) : Int).toNat z82) 0) else (none)) else (none)
set_option maxHeartbeats 8000000 in
set_option maxRecDepth 100000 in
theorem laws_toThreadS.calls (k : Nat) (A0 : Option Addr) (c0 : Nat) (l0 : List (S171)) (r : List (S82)) (w : World) (hr0 : Kd.C k171 w A0 l0.length l0) (hc0 : l0.length ≤ c0) (h : laws_toThreadS.f k l0 = some r) :
  Calls Tryz.prog 89 #[.slice A0 l0.length c0] w fun e w' => ∃ v0_ : Value, e = .returned (v0_) ∧ Kd.S k82 82 w' w.heap.size (fun _ => True) v0_ r ∧ Below w.heap.size w w' := by
 have hu171 := Tryz.underlying171
 have hu82 := Tryz.underlying82
 have HR0 := Aside0.mk hr0
 have HC0 := Aside0.mk hc0
 clear hr0 hc0
 have HB := Aside0.mk (Below.refl w.heap.size w)
 have H := h
 clear h
 unfold laws_toThreadS.f at H
 obtain ⟨c2b0, c2b1, H⟩ := itb H
 obtain ⟨c3b0, c3b1, H⟩ := itb H
 obtain ⟨y342, hy342⟩ : ∃ y_ : List (S82), y_ = (List.replicate ((l0.length : Int) : Int).toNat z82) := ⟨_, rfl⟩
 replace H : (laws_toThreadS.l0 k l0 y342 0) = some r := by first | (rw [hy342]; with_reducible exact H) | (have H2_ := (Option.bind_some _ _).symm.trans H; rw [hy342]; with_reducible exact H2_) | (have H2_ := (Option.bind_some _ _).symm.trans H; with_reducible exact H2_) | with_reducible exact H | (rw [hy342]; exact H) | exact H
 have Ny342 := Aside0.mk hy342
 clear hy342
 have H' := Aside0.mk H
 clear H
 go_enter Tryz.func89, Tryz.ntmps89
 go_wp2_with (first | ((with_reducible refine gq 7 rfl ?_); refine Kd.S_make k82 _ 82 rfl (N := 7) rfl 71 _ _ rfl (l0.length : Int) rfl rfl Tryz.underlying71 (.agg #[(.slice none 0 0), (.int .i64 0), (.bool false), (.slice none 0 0), (.slice none 0 0)]) 88 info82 rfl (by decide) (by omega) z82 (ok := fun _ => True) (okp := fun _ => True) (k82_mkM _ _ _ z82 (Kd.R_nil _ _ _ _ _) (Kd.R_nil _ _ _ _ _) (Kd.R_nil _ _ _ _ _)) (fun _ hk => hk) trivial (od) (Nat.le_trans (Nat.mul_le_mul_right _ (od : (l0.length : Int).toNat ≤ 3198579280802)) (by omega)) (Below.refl _ _) (Nat.le_refl _) ?_; intro v343 w4 ho5 hb hg_ hnew_; clear hg_ hnew_; (first | rw [← Ny342.out] at ho5 | (simp only [Int.reduceToNat] at ho5; rw [← Ny342.out] at ho5)); have HO344 := Aside0.mk (Kd.S_lower ho5 (below_size (tb HB))); replace HB := bs HB hb; clear hb ho5))
 go_loopg [4] k (fun kq v4 w' => ∃ (x3_1 : List (S82)) (x4_1 : Int), v4 = .int .i64 x4_1 ∧ Aside0 (laws_toThreadS.l0 kq l0 x3_1 x4_1 = some r) ∧ Aside0 (kq ≤ k) ∧ Aside0 (Kd.S k82 82 w' w.heap.size (fun _ => True) v343 x3_1) ∧ Aside0 (Below w.heap.size w w'))
 case atStart => exact ⟨(y342), (0), rsd, H', ⟨Nat.le_refl _⟩, ⟨by (with_reducible repeat (first | apply Kd.S_alloc | apply Kd.S_drewN | apply Kd.S_drew)); exact HO344.out⟩, ⟨tb HB⟩⟩
 case round =>
  clear H'
  obtain ⟨x3_1, x4_1, rfl, HA, HK1, HO_3, HB⟩ := hrel
  cases gk with
  | zero => exact absurd HA.out (by simp [laws_toThreadS.l0])
  | succ k1 =>
   have H := HA.out
   clear HA
   simp only [laws_toThreadS.l0] at H
   revert H; refine icd (fun c6b0 H => ?_) fun c6b0 H => ?neg
   case neg =>
    obtain rfl := oin H
    go_wp2
    go_ret
    exact ⟨_, er, by (with_reducible repeat (first | apply Kd.S_alloc | apply Kd.S_drewN | apply Kd.S_drew)); exact HO_3.out, tb HB⟩
   obtain ⟨c7b0, H⟩ := itd H
   obtain ⟨⟨t346, t349, t350, t351, t354⟩, A8, H⟩ := bn H
   try dsimp only at H
   obtain ⟨c9b0, H⟩ := itd H
   obtain ⟨y357, hy357⟩ : ∃ y_ : List (S82), y_ = (x3_1.set (x4_1 : Int).toNat (⟨t346, t349, t350, t351, t354⟩ : S82)) := ⟨_, rfl⟩
   replace H : (laws_toThreadS.l0 k1 l0 y357 (wrap64 (x4_1 + 1))) = some r := by first | (rw [hy357]; with_reducible exact H) | (have H2_ := (Option.bind_some _ _).symm.trans H; rw [hy357]; with_reducible exact H2_) | (have H2_ := (Option.bind_some _ _).symm.trans H; with_reducible exact H2_) | with_reducible exact H | (rw [hy357]; exact H) | exact H
   have Ny357 := Aside0.mk hy357
   clear hy357
   have H' := Aside0.mk H
   clear H
   have p345 : 0 ≤ (x4_1 : Int) := od
   have q345 : x4_1 < (l0.length : Int) := od
   obtain ⟨ad345, A345_0, c345_0, A345_3, c345_3, A345_4, c345_4, e345, hx345, hl345_0, hi345_0, hl345_3, hi345_3, hl345_4, hi345_4⟩ := att171 HR0.out x4_1 p345 q345
   cases e345
   replace hx345 := ox5 HB hx345
   have HR345_0 := Aside0.mk hi345_0
   have HC345_0 := Aside0.mk hl345_0
   clear hi345_0 hl345_0
   have HR345_3 := Aside0.mk hi345_3
   have HC345_3 := Aside0.mk hl345_3
   clear hi345_3 hl345_3
   have HR345_4 := Aside0.mk hi345_4
   have HC345_4 := Aside0.mk hl345_4
   clear hi345_4 hl345_4
   replace p345 := eq_true p345
   replace q345 := eq_true q345
   go_wp2_with (first | ((with_reducible refine gf 146 rfl ?_); refine gL 20 Tryz.func146 #[.agg #[.slice A345_0 ((rd_T171 l0 x4_1).f0).length c345_0, .int .i64 ((rd_T171 l0 x4_1).f1), .bool ((rd_T171 l0 x4_1).f2), .slice A345_3 ((rd_T171 l0 x4_1).f3).length c345_3, .slice A345_4 ((rd_T171 l0 x4_1).f4).length c345_4]] ?_; (with_reducible refine (laws_toThread.calls k1 _ _ ((rd_T171 l0 x4_1).f0) ((rd_T171 l0 x4_1).f1) ((rd_T171 l0 x4_1).f2) _ _ ((rd_T171 l0 x4_1).f3) _ _ ((rd_T171 l0 x4_1).f4) t346 t349 t350 t351 t354 _ (kc HR345_0 HB) HC345_0.out (kc HR345_3 HB) HC345_3.out (kc HR345_4 HB) HC345_4.out A8.out).mono ?_); rintro e w11 ⟨v347, v352, v355, rfl, ho0, ho1, ho2, hb⟩; refine ⟨_, rfl, ?_⟩; replace HO_3 := Aside0.mk (Kd.S_mono (Kd.S_told (Kd.S_told (Kd.S_told (Kd.S_old (by (with_reducible repeat (first | apply Kd.S_alloc | apply Kd.S_drewN | apply Kd.S_drew)); exact HO_3.out) hb) (Kd.R_base ho0)) (Kd.R_base ho1)) (Kd.R_base ho2)) (fun _ h_ => h_.1)); have HO348 := Aside0.mk (Kd.R_lower ho0 (below_size (tb HB))); have HO353 := Aside0.mk (Kd.R_lower ho1 (below_size (tb HB))); have HO356 := Aside0.mk (Kd.R_lower ho2 (below_size (tb HB))); replace HB := bs HB hb; (try clear hb); (try clear ho0); (try clear ho1); (try clear ho2); have p10 : 0 ≤ (x4_1 : Int) := od; have q10 : (x4_1 : Int) < ((x3_1.length : Int) : Int) := od; obtain ⟨go10, co10, eo10, gb10, gl10, cl10, HG10⟩ := Kd.S_form HO_3.out (by omega); (first | cases eo10 | (injection eo10 with ea_ en_ ec_; (first | subst ea_ | (injection ea_ with ea_; subst ea_)); subst ec_; clear en_)); have GB10 := Aside0.mk gb10; have GG10 := Aside0.mk HG10; clear gb10 gl10 HG10; obtain ⟨_, ce10, hcl10, hM10, hcc10, hfr10, _, _⟩ := Kd.S_elem HO_3.out z82 (x4_1 : Int) p10 q10; obtain ⟨ve10_0, ve10_3, ve10_4, rfl, ge10_0, ge10_3, ge10_4⟩ := k82_openM hM10; have hx10_0 : w11.cell? ⟨go10, (x4_1 : Int).toNat * 5, none⟩ = some (ve10_0) := hcc10 0 _ rfl; have hx10_1 : w11.cell? ⟨go10, (x4_1 : Int).toNat * 5 + 1, none⟩ = some (.int .i64 ((rd_T82 x3_1 x4_1).f1)) := hcc10 1 _ rfl; have hx10_2 : w11.cell? ⟨go10, (x4_1 : Int).toNat * 5 + 2, none⟩ = some (.bool ((rd_T82 x3_1 x4_1).f2)) := hcc10 2 _ rfl; have hx10_3 : w11.cell? ⟨go10, (x4_1 : Int).toNat * 5 + 3, none⟩ = some (ve10_3) := hcc10 3 _ rfl; have hx10_4 : w11.cell? ⟨go10, (x4_1 : Int).toNat * 5 + 4, none⟩ = some (ve10_4) := hcc10 4 _ rfl; have hf10_0 : w11.frozen? ⟨go10, (x4_1 : Int).toNat * 5, none⟩ = false := hfr10 0; have hf10_1 : w11.frozen? ⟨go10, (x4_1 : Int).toNat * 5 + 1, none⟩ = false := hfr10 1; have hf10_2 : w11.frozen? ⟨go10, (x4_1 : Int).toNat * 5 + 2, none⟩ = false := hfr10 2; have hf10_3 : w11.frozen? ⟨go10, (x4_1 : Int).toNat * 5 + 3, none⟩ = false := hfr10 3; have hf10_4 : w11.frozen? ⟨go10, (x4_1 : Int).toNat * 5 + 4, none⟩ = false := hfr10 4; clear hcl10 hcc10 hfr10 hM10; replace p10 := eq_true p10; replace q10 := eq_true q10; obtain ⟨Ao14, co14, eo14⟩ := Kd.R_slice HO348.out; subst eo14; obtain ⟨Ao15, co15, eo15⟩ := Kd.R_slice HO353.out; subst eo15; obtain ⟨Ao16, co16, eo16⟩ := Kd.R_slice HO356.out; subst eo16; have n_ := Aside0.mk (Kd.S_mono (ok' := (fun k_ => some k_ ≠ (.slice Ao14 t346.length co14 : Value).ownBlock ∧ some k_ ≠ (.slice Ao15 t351.length co15 : Value).ownBlock ∧ some k_ ≠ (.slice Ao16 t354.length co16 : Value).ownBlock)) HO_3.out (fun k_ hk => ⟨hk.1.1.2, ⟨hk.1.2, hk.2⟩⟩)); clear HO_3; have HO_3 := n_; clear n_; have HX12 := Aside0.mk (show Kd.S k82 82 w11 w.heap.size (fun k_ => ((fun _ => True)) k_ ∧ ¬ ((fun k_ => some k_ = (.slice Ao14 t346.length co14 : Value).ownBlock ∨ some k_ = (.slice Ao15 t351.length co15 : Value).ownBlock ∨ some k_ = (.slice Ao16 t354.length co16 : Value).ownBlock)) k_) (.slice (some ⟨go10, 0, none⟩) x3_1.length co10) x3_1 from (by (with_reducible repeat (first | apply Kd.S_alloc | apply Kd.S_drewN | apply Kd.S_drew)); exact Kd.S_mono HO_3.out (fun k_ hk => ⟨trivial, fun e_ => e_.elim (fun h_ => hk.1 h_) (fun h_ => h_.elim (fun h_ => hk.2.1 h_) (fun h_ => hk.2.2 h_))⟩))); obtain ⟨oki12, ce12, hcl12, hM12, hcc12, hfr12, hoki12, hH12⟩ := Kd.S_elem HX12.out z82 (x4_1 : Int) (od) (by have h_ : (x4_1 : Int) < ((x3_1.length : Int) : Int) := od; first | exact h_ | (have e_ := (Kd.S_reads' HO_3.out).1; omega) | simpa using h_); obtain ⟨ve12_0, ve12_3, ve12_4, rfl, ge12_0, ge12_3, ge12_4⟩ := k82_openM hM12; have HP12 := Kd.S_seg hH12 (od) (by have h_ : (x4_1 : Int) < ((x3_1.length : Int) : Int) := od; first | exact h_ | (have e_ := (Kd.S_reads' HO_3.out).1; omega) | simpa using h_) (seg := [.slice Ao14 t346.length co14, .int .i64 t349, .bool t350, .slice Ao15 t351.length co15, .slice Ao16 t354.length co16]) (j := 0) (show 5 ≤ 5 from by decide) (x' := (⟨t346, t349, t350, t351, t354⟩ : S82)) (k82_mkM _ _ _ (⟨t346, t349, t350, t351, t354⟩ : S82) (Kd.R_mono (Kd.R_tight rfl (Kd.R_mono (ok' := fun k_ => ((fun _ => True)) k_ ∧ k_ ≠ go10) (Kd.R_apart' (HO348.out) (Kd.S_typed HO_3.out) (by decide)) (fun k_ hk => ⟨trivial, fun e_ => (hk.2) (by rw [e_]; rfl)⟩))) (fun _ h_ => Or.inr (Or.inl h_))) (Kd.R_mono (Kd.R_tight rfl (Kd.R_mono (ok' := fun k_ => ((fun _ => True)) k_ ∧ k_ ≠ go10) (Kd.R_apart' (HO353.out) (Kd.S_typed HO_3.out) (by decide)) (fun k_ hk => ⟨trivial, fun e_ => (hk.2) (by rw [e_]; rfl)⟩))) (fun _ h_ => Or.inr (Or.inr (Or.inl h_)))) (Kd.R_mono (Kd.R_tight rfl (Kd.R_mono (ok' := fun k_ => ((fun _ => True)) k_ ∧ k_ ≠ go10) (Kd.R_apart' (HO356.out) (Kd.S_typed HO_3.out) (by decide)) (fun k_ hk => ⟨trivial, fun e_ => (hk.2) (by rw [e_]; rfl)⟩))) (fun _ h_ => Or.inr (Or.inr (Or.inr (h_)))))) (fun _ hk => hk) (fun k_ hk_ => hk_.elim (fun h_ => ((Kd.R_mono (ok' := fun k_ => ((fun _ => True)) k_ ∧ k_ ≠ go10) (Kd.R_apart' (HO348.out) (Kd.S_typed HO_3.out) (by decide)) (fun k_ hk => ⟨trivial, fun e_ => (hk.2) (by rw [e_]; rfl)⟩))).1 k_ h_.symm) (fun h_ => h_.elim (fun h_ => ((Kd.R_mono (ok' := fun k_ => ((fun _ => True)) k_ ∧ k_ ≠ go10) (Kd.R_apart' (HO353.out) (Kd.S_typed HO_3.out) (by decide)) (fun k_ hk => ⟨trivial, fun e_ => (hk.2) (by rw [e_]; rfl)⟩))).1 k_ h_.symm) (fun h_ => ((Kd.R_mono (ok' := fun k_ => ((fun _ => True)) k_ ∧ k_ ≠ go10) (Kd.R_apart' (HO356.out) (Kd.S_typed HO_3.out) (by decide)) (fun k_ hk => ⟨trivial, fun e_ => (hk.2) (by rw [e_]; rfl)⟩))).1 k_ h_.symm))); have hx12_0 := hcc12 0 _ rfl; (try simp only [show (k82).sz = 5 from rfl, Nat.mul_one, Nat.add_zero] at hx12_0); have hf12_0 := hfr12 0; (try simp only [show (k82).sz = 5 from rfl, Nat.mul_one, Nat.add_zero] at hf12_0); have hx12_1 := hcc12 1 _ rfl; (try simp only [show (k82).sz = 5 from rfl, Nat.mul_one, Nat.add_zero] at hx12_1); have hf12_1 := hfr12 1; (try simp only [show (k82).sz = 5 from rfl, Nat.mul_one, Nat.add_zero] at hf12_1); have hx12_2 := hcc12 2 _ rfl; (try simp only [show (k82).sz = 5 from rfl, Nat.mul_one, Nat.add_zero] at hx12_2); have hf12_2 := hfr12 2; (try simp only [show (k82).sz = 5 from rfl, Nat.mul_one, Nat.add_zero] at hf12_2); have hx12_3 := hcc12 3 _ rfl; (try simp only [show (k82).sz = 5 from rfl, Nat.mul_one, Nat.add_zero] at hx12_3); have hf12_3 := hfr12 3; (try simp only [show (k82).sz = 5 from rfl, Nat.mul_one, Nat.add_zero] at hf12_3); have hx12_4 := hcc12 4 _ rfl; (try simp only [show (k82).sz = 5 from rfl, Nat.mul_one, Nat.add_zero] at hx12_4); have hf12_4 := hfr12 4; (try simp only [show (k82).sz = 5 from rfl, Nat.mul_one, Nat.add_zero] at hf12_4); clear hcl12 hcc12 hfr12 hM12 hoki12 hH12) | ((with_reducible refine gate_store (t := 82) (p := 21) rfl ?_); refine store_event (t := 82) (p := 21) (v := ?vo_w13) (w1 := (((((w11.setCell ⟨go10, (x4_1 : Int).toNat * 5, none⟩ (.slice Ao14 t346.length co14)).setCell ⟨go10, (x4_1 : Int).toNat * 5 + 1, none⟩ (.int .i64 t349)).setCell ⟨go10, (x4_1 : Int).toNat * 5 + 2, none⟩ (.bool t350)).setCell ⟨go10, (x4_1 : Int).toNat * 5 + 3, none⟩ (.slice Ao15 t351.length co15)).setCell ⟨go10, (x4_1 : Int).toNat * 5 + 4, none⟩ (.slice Ao16 t354.length co16))) ?hg ?ho ?hn ?hr ?_; (case ho => rfl); (case hg => rfl); (case hn => rfl); (case hr => first | (go_simp; done) | (go_simp; rfl)); intro w13 hw; have hg : w11.grownBy w13 (some go10) := (by rw [hw]; exact HP12.2); have hp_ : Kd.S k82 82 w13 w.heap.size (fun _ => True) (.slice (some ⟨go10, 0, none⟩) x3_1.length co10) y357 := (by rw [hw, Ny357.out]; exact HP12.1); clear HP12; replace HO_3 := Aside0.mk (hp_); replace HB := Aside0.mk ((by rw [hw]; exact below_set (below_set (below_set (below_set (below_set (HB.out) GB10.out) GB10.out) GB10.out) GB10.out) GB10.out : Below w.heap.size w w13)); clear HO348 HO353 HO356; clear hg hw hp_))
   go_roundg k1
   case measure => have := HK1.out; omega
   case rel => exact ⟨(y357), (wrap64 (x4_1 + 1)), rsd, H', ⟨by have := HK1.out; omega⟩, ⟨by (with_reducible repeat (first | apply Kd.S_alloc | apply Kd.S_drewN | apply Kd.S_drew)); exact HO_3.out⟩, ⟨tb HB⟩⟩
def laws_toCallS.l0 : Nat → List (S176) → List (S134) → Int → Option ((List (S134)))
 | 0, _, _, _ => none
 | k + 1, x0, x3, x4 => if x4 < (x0.length : Int) then (if 0 ≤ x4 then ((laws_toCall.f k ((rd_T176 x0 x4).f0) ((rd_T176 x0 x4).f1.f0) ((rd_T176 x0 x4).f1.f1) ((rd_T176 x0 x4).f1.f2) ((rd_T176 x0 x4).f2) ((rd_T176 x0 x4).f3) ((rd_T176 x0 x4).f4) ((rd_T176 x0 x4).f5.f0) ((rd_T176 x0 x4).f5.f1)).bind fun bt372 => (if x4 < (x3.length : Int) then (laws_toCallS.l0 k x0 (x3.set (x4 : Int).toNat (⟨bt372.1, (⟨bt372.2.1, bt372.2.2.1, bt372.2.2.2.1⟩ : S132), bt372.2.2.2.2.1, bt372.2.2.2.2.2.1, bt372.2.2.2.2.2.2.1, (⟨bt372.2.2.2.2.2.2.2.1, bt372.2.2.2.2.2.2.2.2⟩ : S31)⟩ : S134)) (wrap64 (x4 + 1))) else (none))) else (none)) else (some x3)
def laws_toCallS.f (k : Nat) (l0 : List (S176)) : Option ((List (S134))) := if 0 ≤ (l0.length : Int) then (if ((l0.length : Int) : Int).toNat ≤ 3198579280802 then (laws_toCallS.l0 k l0 (List.replicate ((l0.length : Int) : Int).toNat z134) 0) else (none)) else (none)
set_option maxHeartbeats 8000000 in
set_option maxRecDepth 100000 in
theorem laws_toCallS.calls (k : Nat) (A0 : Option Addr) (c0 : Nat) (l0 : List (S176)) (r : List (S134)) (w : World) (hr0 : Kd.C k176 w A0 l0.length l0) (hc0 : l0.length ≤ c0) (h : laws_toCallS.f k l0 = some r) :
  Calls Tryz.prog 90 #[.slice A0 l0.length c0] w fun e w' => ∃ v0_ : Value, e = .returned (v0_) ∧ Kd.S k134 134 w' w.heap.size (fun _ => True) v0_ r ∧ Below w.heap.size w w' := by
 have hu176 := Tryz.underlying176
 have hu134 := Tryz.underlying134
 have HR0 := Aside0.mk hr0
 have HC0 := Aside0.mk hc0
 clear hr0 hc0
 have HB := Aside0.mk (Below.refl w.heap.size w)
 have H := h
 clear h
 unfold laws_toCallS.f at H
 obtain ⟨c2b0, c2b1, H⟩ := itb H
 obtain ⟨c3b0, c3b1, H⟩ := itb H
 obtain ⟨y368, hy368⟩ : ∃ y_ : List (S134), y_ = (List.replicate ((l0.length : Int) : Int).toNat z134) := ⟨_, rfl⟩
 replace H : (laws_toCallS.l0 k l0 y368 0) = some r := by first | (rw [hy368]; with_reducible exact H) | (have H2_ := (Option.bind_some _ _).symm.trans H; rw [hy368]; with_reducible exact H2_) | (have H2_ := (Option.bind_some _ _).symm.trans H; with_reducible exact H2_) | with_reducible exact H | (rw [hy368]; exact H) | exact H
 have Ny368 := Aside0.mk hy368
 clear hy368
 have H' := Aside0.mk H
 clear H
 go_enter Tryz.func90, Tryz.ntmps90
 go_wp2_with (first | ((with_reducible refine gq 7 rfl ?_); refine Kd.S_make k134 _ 134 rfl (N := 7) rfl 72 _ _ rfl (l0.length : Int) rfl rfl Tryz.underlying72 (.agg #[(.int .i64 0), (.int .i64 0), (.int .i64 0), (.int .i64 0), (.int .i64 0), (.int .i64 0), (.int .i64 0), (.int .i64 0), (.slice none 0 0)]) 88 info134 rfl (by decide) (by omega) z134 (ok := fun _ => True) (okp := fun _ => True) (k134_mkM _ _ _ z134 (Kd.R_nil _ _ _ _ _)) (fun _ hk => hk) trivial (od) (Nat.le_trans (Nat.mul_le_mul_right _ (od : (l0.length : Int).toNat ≤ 3198579280802)) (by omega)) (Below.refl _ _) (Nat.le_refl _) ?_; intro v369 w4 ho5 hb hg_ hnew_; clear hg_ hnew_; (first | rw [← Ny368.out] at ho5 | (simp only [Int.reduceToNat] at ho5; rw [← Ny368.out] at ho5)); have HO370 := Aside0.mk (Kd.S_lower ho5 (below_size (tb HB))); replace HB := bs HB hb; clear hb ho5))
 go_loopg [4] k (fun kq v4 w' => ∃ (x3_1 : List (S134)) (x4_1 : Int), v4 = .int .i64 x4_1 ∧ Aside0 (laws_toCallS.l0 kq l0 x3_1 x4_1 = some r) ∧ Aside0 (kq ≤ k) ∧ Aside0 (Kd.S k134 134 w' w.heap.size (fun _ => True) v369 x3_1) ∧ Aside0 (Below w.heap.size w w'))
 case atStart => exact ⟨(y368), (0), rsd, H', ⟨Nat.le_refl _⟩, ⟨by (with_reducible repeat (first | apply Kd.S_alloc | apply Kd.S_drewN | apply Kd.S_drew)); exact HO370.out⟩, ⟨tb HB⟩⟩
 case round =>
  clear H'
  obtain ⟨x3_1, x4_1, rfl, HA, HK1, HO_3, HB⟩ := hrel
  cases gk with
  | zero => exact absurd HA.out (by simp [laws_toCallS.l0])
  | succ k1 =>
   have H := HA.out
   clear HA
   simp only [laws_toCallS.l0] at H
   revert H; refine icd (fun c6b0 H => ?_) fun c6b0 H => ?neg
   case neg =>
    obtain rfl := oin H
    go_wp2
    go_ret
    exact ⟨_, er, by (with_reducible repeat (first | apply Kd.S_alloc | apply Kd.S_drewN | apply Kd.S_drew)); exact HO_3.out, tb HB⟩
   obtain ⟨c7b0, H⟩ := itd H
   obtain ⟨⟨t372, t373, t374, t375, t376, t377, t378, t379, t380⟩, A8, H⟩ := bn H
   try dsimp only at H
   obtain ⟨c9b0, H⟩ := itd H
   obtain ⟨y383, hy383⟩ : ∃ y_ : List (S134), y_ = (x3_1.set (x4_1 : Int).toNat (⟨t372, (⟨t373, t374, t375⟩ : S132), t376, t377, t378, (⟨t379, t380⟩ : S31)⟩ : S134)) := ⟨_, rfl⟩
   replace H : (laws_toCallS.l0 k1 l0 y383 (wrap64 (x4_1 + 1))) = some r := by first | (rw [hy383]; with_reducible exact H) | (have H2_ := (Option.bind_some _ _).symm.trans H; rw [hy383]; with_reducible exact H2_) | (have H2_ := (Option.bind_some _ _).symm.trans H; with_reducible exact H2_) | with_reducible exact H | (rw [hy383]; exact H) | exact H
   have Ny383 := Aside0.mk hy383
   clear hy383
   have H' := Aside0.mk H
   clear H
   have p371 : 0 ≤ (x4_1 : Int) := od
   have q371 : x4_1 < (l0.length : Int) := od
   obtain ⟨ad371, A371_8, c371_8, e371, hx371, hl371_8, hi371_8⟩ := att176 HR0.out x4_1 p371 q371
   cases e371
   replace hx371 := ox9 HB hx371
   have HR371_8 := Aside0.mk hi371_8
   have HC371_8 := Aside0.mk hl371_8
   clear hi371_8 hl371_8
   replace p371 := eq_true p371
   replace q371 := eq_true q371
   go_wp2_with (first | ((with_reducible refine gf 147 rfl ?_); refine gL 20 Tryz.func147 #[.agg #[.int .i64 ((rd_T176 l0 x4_1).f0), .int .i64 ((rd_T176 l0 x4_1).f1.f0), .int .i64 ((rd_T176 l0 x4_1).f1.f1), .int .i64 ((rd_T176 l0 x4_1).f1.f2), .int .i64 ((rd_T176 l0 x4_1).f2), .int .i64 ((rd_T176 l0 x4_1).f3), .int .i64 ((rd_T176 l0 x4_1).f4), .int .i64 ((rd_T176 l0 x4_1).f5.f0), .slice A371_8 ((rd_T176 l0 x4_1).f5.f1).length c371_8]] ?_; (with_reducible refine (laws_toCall.calls k1 ((rd_T176 l0 x4_1).f0) ((rd_T176 l0 x4_1).f1.f0) ((rd_T176 l0 x4_1).f1.f1) ((rd_T176 l0 x4_1).f1.f2) ((rd_T176 l0 x4_1).f2) ((rd_T176 l0 x4_1).f3) ((rd_T176 l0 x4_1).f4) ((rd_T176 l0 x4_1).f5.f0) _ _ ((rd_T176 l0 x4_1).f5.f1) t372 t373 t374 t375 t376 t377 t378 t379 t380 _ (kc HR371_8 HB) HC371_8.out A8.out).mono ?_); rintro e w11 ⟨v381, rfl, ho0, hb⟩; refine ⟨_, rfl, ?_⟩; replace HO_3 := Aside0.mk (Kd.S_elder' (by (with_reducible repeat (first | apply Kd.S_alloc | apply Kd.S_drewN | apply Kd.S_drew)); exact HO_3.out) (Kd.R_base ho0) hb); have HO382 := Aside0.mk (Kd.R_lower ho0 (below_size (tb HB))); replace HB := bs HB hb; (try clear hb); (try clear ho0); have p10 : 0 ≤ (x4_1 : Int) := od; have q10 : (x4_1 : Int) < ((x3_1.length : Int) : Int) := od; obtain ⟨go10, co10, eo10, gb10, gl10, cl10, HG10⟩ := Kd.S_form HO_3.out (by omega); (first | cases eo10 | (injection eo10 with ea_ en_ ec_; (first | subst ea_ | (injection ea_ with ea_; subst ea_)); subst ec_; clear en_)); have GB10 := Aside0.mk gb10; have GG10 := Aside0.mk HG10; clear gb10 gl10 HG10; obtain ⟨_, ce10, hcl10, hM10, hcc10, hfr10, _, _⟩ := Kd.S_elem HO_3.out z134 (x4_1 : Int) p10 q10; obtain ⟨ve10_8, rfl, ge10_8⟩ := k134_openM hM10; have hx10_0 : w11.cell? ⟨go10, (x4_1 : Int).toNat * 9, none⟩ = some (.int .i64 ((rd_T134 x3_1 x4_1).f0)) := hcc10 0 _ rfl; have hx10_1 : w11.cell? ⟨go10, (x4_1 : Int).toNat * 9 + 1, none⟩ = some (.int .i64 ((rd_T134 x3_1 x4_1).f1.f0)) := hcc10 1 _ rfl; have hx10_2 : w11.cell? ⟨go10, (x4_1 : Int).toNat * 9 + 2, none⟩ = some (.int .i64 ((rd_T134 x3_1 x4_1).f1.f1)) := hcc10 2 _ rfl; have hx10_3 : w11.cell? ⟨go10, (x4_1 : Int).toNat * 9 + 3, none⟩ = some (.int .i64 ((rd_T134 x3_1 x4_1).f1.f2)) := hcc10 3 _ rfl; have hx10_4 : w11.cell? ⟨go10, (x4_1 : Int).toNat * 9 + 4, none⟩ = some (.int .i64 ((rd_T134 x3_1 x4_1).f2)) := hcc10 4 _ rfl; have hx10_5 : w11.cell? ⟨go10, (x4_1 : Int).toNat * 9 + 5, none⟩ = some (.int .i64 ((rd_T134 x3_1 x4_1).f3)) := hcc10 5 _ rfl; have hx10_6 : w11.cell? ⟨go10, (x4_1 : Int).toNat * 9 + 6, none⟩ = some (.int .i64 ((rd_T134 x3_1 x4_1).f4)) := hcc10 6 _ rfl; have hx10_7 : w11.cell? ⟨go10, (x4_1 : Int).toNat * 9 + 7, none⟩ = some (.int .i64 ((rd_T134 x3_1 x4_1).f5.f0)) := hcc10 7 _ rfl; have hx10_8 : w11.cell? ⟨go10, (x4_1 : Int).toNat * 9 + 8, none⟩ = some (ve10_8) := hcc10 8 _ rfl; have hf10_0 : w11.frozen? ⟨go10, (x4_1 : Int).toNat * 9, none⟩ = false := hfr10 0; have hf10_1 : w11.frozen? ⟨go10, (x4_1 : Int).toNat * 9 + 1, none⟩ = false := hfr10 1; have hf10_2 : w11.frozen? ⟨go10, (x4_1 : Int).toNat * 9 + 2, none⟩ = false := hfr10 2; have hf10_3 : w11.frozen? ⟨go10, (x4_1 : Int).toNat * 9 + 3, none⟩ = false := hfr10 3; have hf10_4 : w11.frozen? ⟨go10, (x4_1 : Int).toNat * 9 + 4, none⟩ = false := hfr10 4; have hf10_5 : w11.frozen? ⟨go10, (x4_1 : Int).toNat * 9 + 5, none⟩ = false := hfr10 5; have hf10_6 : w11.frozen? ⟨go10, (x4_1 : Int).toNat * 9 + 6, none⟩ = false := hfr10 6; have hf10_7 : w11.frozen? ⟨go10, (x4_1 : Int).toNat * 9 + 7, none⟩ = false := hfr10 7; have hf10_8 : w11.frozen? ⟨go10, (x4_1 : Int).toNat * 9 + 8, none⟩ = false := hfr10 8; clear hcl10 hcc10 hfr10 hM10; replace p10 := eq_true p10; replace q10 := eq_true q10; obtain ⟨Ao14, co14, eo14⟩ := Kd.R_slice HO382.out; subst eo14; have n_ := Aside0.mk (Kd.S_mono (ok' := (fun k_ => some k_ ≠ (.slice Ao14 t380.length co14 : Value).ownBlock)) HO_3.out (fun k_ hk => hk.2)); clear HO_3; have HO_3 := n_; clear n_; have HX12 := Aside0.mk (show Kd.S k134 134 w11 w.heap.size (fun k_ => ((fun _ => True)) k_ ∧ ¬ ((fun k_ => some k_ = (.slice Ao14 t380.length co14 : Value).ownBlock)) k_) (.slice (some ⟨go10, 0, none⟩) x3_1.length co10) x3_1 from (by (with_reducible repeat (first | apply Kd.S_alloc | apply Kd.S_drewN | apply Kd.S_drew)); exact Kd.S_mono HO_3.out (fun k_ hk => ⟨trivial, fun e_ => hk e_⟩))); obtain ⟨oki12, ce12, hcl12, hM12, hcc12, hfr12, hoki12, hH12⟩ := Kd.S_elem HX12.out z134 (x4_1 : Int) (od) (by have h_ : (x4_1 : Int) < ((x3_1.length : Int) : Int) := od; first | exact h_ | (have e_ := (Kd.S_reads' HO_3.out).1; omega) | simpa using h_); obtain ⟨ve12_8, rfl, ge12_8⟩ := k134_openM hM12; have HP12 := Kd.S_seg hH12 (od) (by have h_ : (x4_1 : Int) < ((x3_1.length : Int) : Int) := od; first | exact h_ | (have e_ := (Kd.S_reads' HO_3.out).1; omega) | simpa using h_) (seg := [.int .i64 t372, .int .i64 t373, .int .i64 t374, .int .i64 t375, .int .i64 t376, .int .i64 t377, .int .i64 t378, .int .i64 t379, .slice Ao14 t380.length co14]) (j := 0) (show 9 ≤ 9 from by decide) (x' := (⟨t372, (⟨t373, t374, t375⟩ : S132), t376, t377, t378, (⟨t379, t380⟩ : S31)⟩ : S134)) (k134_mkM _ _ _ (⟨t372, (⟨t373, t374, t375⟩ : S132), t376, t377, t378, (⟨t379, t380⟩ : S31)⟩ : S134) (Kd.R_mono (Kd.R_tight rfl (Kd.R_mono (ok' := fun k_ => ((fun _ => True)) k_ ∧ k_ ≠ go10) (Kd.R_apart' (HO382.out) (Kd.S_typed HO_3.out) (by decide)) (fun k_ hk => ⟨trivial, fun e_ => (hk.2) (by rw [e_]; rfl)⟩))) (fun _ h_ => Or.inr (h_)))) (fun _ hk => hk) (fun k_ hk_ => ((Kd.R_mono (ok' := fun k_ => ((fun _ => True)) k_ ∧ k_ ≠ go10) (Kd.R_apart' (HO382.out) (Kd.S_typed HO_3.out) (by decide)) (fun k_ hk => ⟨trivial, fun e_ => (hk.2) (by rw [e_]; rfl)⟩))).1 k_ hk_.symm); have hx12_0 := hcc12 0 _ rfl; (try simp only [show (k134).sz = 9 from rfl, Nat.mul_one, Nat.add_zero] at hx12_0); have hf12_0 := hfr12 0; (try simp only [show (k134).sz = 9 from rfl, Nat.mul_one, Nat.add_zero] at hf12_0); have hx12_1 := hcc12 1 _ rfl; (try simp only [show (k134).sz = 9 from rfl, Nat.mul_one, Nat.add_zero] at hx12_1); have hf12_1 := hfr12 1; (try simp only [show (k134).sz = 9 from rfl, Nat.mul_one, Nat.add_zero] at hf12_1); have hx12_2 := hcc12 2 _ rfl; (try simp only [show (k134).sz = 9 from rfl, Nat.mul_one, Nat.add_zero] at hx12_2); have hf12_2 := hfr12 2; (try simp only [show (k134).sz = 9 from rfl, Nat.mul_one, Nat.add_zero] at hf12_2); have hx12_3 := hcc12 3 _ rfl; (try simp only [show (k134).sz = 9 from rfl, Nat.mul_one, Nat.add_zero] at hx12_3); have hf12_3 := hfr12 3; (try simp only [show (k134).sz = 9 from rfl, Nat.mul_one, Nat.add_zero] at hf12_3); have hx12_4 := hcc12 4 _ rfl; (try simp only [show (k134).sz = 9 from rfl, Nat.mul_one, Nat.add_zero] at hx12_4); have hf12_4 := hfr12 4; (try simp only [show (k134).sz = 9 from rfl, Nat.mul_one, Nat.add_zero] at hf12_4); have hx12_5 := hcc12 5 _ rfl; (try simp only [show (k134).sz = 9 from rfl, Nat.mul_one, Nat.add_zero] at hx12_5); have hf12_5 := hfr12 5; (try simp only [show (k134).sz = 9 from rfl, Nat.mul_one, Nat.add_zero] at hf12_5); have hx12_6 := hcc12 6 _ rfl; (try simp only [show (k134).sz = 9 from rfl, Nat.mul_one, Nat.add_zero] at hx12_6); have hf12_6 := hfr12 6; (try simp only [show (k134).sz = 9 from rfl, Nat.mul_one, Nat.add_zero] at hf12_6); have hx12_7 := hcc12 7 _ rfl; (try simp only [show (k134).sz = 9 from rfl, Nat.mul_one, Nat.add_zero] at hx12_7); have hf12_7 := hfr12 7; (try simp only [show (k134).sz = 9 from rfl, Nat.mul_one, Nat.add_zero] at hf12_7); have hx12_8 := hcc12 8 _ rfl; (try simp only [show (k134).sz = 9 from rfl, Nat.mul_one, Nat.add_zero] at hx12_8); have hf12_8 := hfr12 8; (try simp only [show (k134).sz = 9 from rfl, Nat.mul_one, Nat.add_zero] at hf12_8); clear hcl12 hcc12 hfr12 hM12 hoki12 hH12) | ((with_reducible refine gate_store (t := 134) (p := 21) rfl ?_); refine store_event (t := 134) (p := 21) (v := ?vo_w13) (w1 := (((((((((w11.setCell ⟨go10, (x4_1 : Int).toNat * 9, none⟩ (.int .i64 t372)).setCell ⟨go10, (x4_1 : Int).toNat * 9 + 1, none⟩ (.int .i64 t373)).setCell ⟨go10, (x4_1 : Int).toNat * 9 + 2, none⟩ (.int .i64 t374)).setCell ⟨go10, (x4_1 : Int).toNat * 9 + 3, none⟩ (.int .i64 t375)).setCell ⟨go10, (x4_1 : Int).toNat * 9 + 4, none⟩ (.int .i64 t376)).setCell ⟨go10, (x4_1 : Int).toNat * 9 + 5, none⟩ (.int .i64 t377)).setCell ⟨go10, (x4_1 : Int).toNat * 9 + 6, none⟩ (.int .i64 t378)).setCell ⟨go10, (x4_1 : Int).toNat * 9 + 7, none⟩ (.int .i64 t379)).setCell ⟨go10, (x4_1 : Int).toNat * 9 + 8, none⟩ (.slice Ao14 t380.length co14))) ?hg ?ho ?hn ?hr ?_; (case ho => rfl); (case hg => rfl); (case hn => rfl); (case hr => first | (go_simp; done) | (go_simp; rfl)); intro w13 hw; have hg : w11.grownBy w13 (some go10) := (by rw [hw]; exact HP12.2); have hp_ : Kd.S k134 134 w13 w.heap.size (fun _ => True) (.slice (some ⟨go10, 0, none⟩) x3_1.length co10) y383 := (by rw [hw, Ny383.out]; exact HP12.1); clear HP12; replace HO_3 := Aside0.mk (hp_); replace HB := Aside0.mk ((by rw [hw]; exact below_set (below_set (below_set (below_set (below_set (below_set (below_set (below_set (below_set (HB.out) GB10.out) GB10.out) GB10.out) GB10.out) GB10.out) GB10.out) GB10.out) GB10.out) GB10.out : Below w.heap.size w w13)); clear HO382; clear hg hw hp_))
   go_roundg k1
   case measure => have := HK1.out; omega
   case rel => exact ⟨(y383), (wrap64 (x4_1 + 1)), rsd, H', ⟨by have := HK1.out; omega⟩, ⟨by (with_reducible repeat (first | apply Kd.S_alloc | apply Kd.S_drewN | apply Kd.S_drew)); exact HO_3.out⟩, ⟨tb HB⟩⟩
def laws_eqDescS.l0 : Nat → List (S52) → List (S52) → Int → Option (Bool)
 | 0, _, _, _ => none
 | k + 1, x0, x1, x5 => if x5 < (x0.length : Int) then (if 0 ≤ x5 then (if x5 < (x1.length : Int) then ((laws_eqDesc.f k ((rd_T52 x0 x5).f0) ((rd_T52 x0 x5).f1) ((rd_T52 x0 x5).f2) ((rd_T52 x0 x5).f3.f0) ((rd_T52 x0 x5).f3.f1) ((rd_T52 x1 x5).f0) ((rd_T52 x1 x5).f1) ((rd_T52 x1 x5).f2) ((rd_T52 x1 x5).f3.f0) ((rd_T52 x1 x5).f3.f1)).bind fun t530 => (if t530 = true then (laws_eqDescS.l0 k x0 x1 (wrap64 (x5 + 1))) else (some false))) else (none)) else (none)) else (some true)
def laws_eqDescS.f (k : Nat) (l0 : List (S52)) (l1 : List (S52)) : Option (Bool) := if (l0.length : Int) = (l1.length : Int) then (laws_eqDescS.l0 k l0 l1 0) else (some false)
def laws_eqDescS.T6 : Bool × List (List Nat × List Nat) := (true, [([], []), ([], []), ([0, 1], [0, 1]), ([2], [2]), ([], []), ([], []), ([4, 5], [4, 5]), ([6], [6]), ([3, 7], [3, 7]), ([8], [8])])
def laws_eqDescS.B6 : List Nat := [0, 0, 3, 7, 0, 0, 48, 112, 255, 511]
theorem laws_eqDescS.tab6 : rtab .any (opsOf Tryz.f153 6) = laws_eqDescS.T6 := by kernel_rfl
theorem laws_eqDescS.bits6 : waitsOk laws_eqDescS.T6.2 laws_eqDescS.B6 = true := by kernel_rfl
set_option maxHeartbeats 8000000 in
set_option maxRecDepth 100000 in
theorem laws_eqDescS.calls (k : Nat) (A0 : Option Addr) (c0 : Nat) (l0 : List (S52)) (A1 : Option Addr) (c1 : Nat) (l1 : List (S52)) (r : Bool) (w : World) (hr0 : Kd.C k52 w A0 l0.length l0) (hc0 : l0.length ≤ c0) (hr1 : Kd.C k52 w A1 l1.length l1) (hc1 : l1.length ≤ c1) (h : laws_eqDescS.f k l0 l1 = some r) :
  Calls Tryz.prog 153 #[.slice A0 l0.length c0, .slice A1 l1.length c1] w fun e w' => e = .returned (.bool r) ∧ Below w.heap.size w w' := by
 have hu52 := Tryz.underlying52
 have HR0 := Aside0.mk hr0
 have HC0 := Aside0.mk hc0
 clear hr0 hc0
 have HR1 := Aside0.mk hr1
 have HC1 := Aside0.mk hc1
 clear hr1 hc1
 have HB := Aside0.mk (Below.refl w.heap.size w)
 have H := h
 clear h
 unfold laws_eqDescS.f at H
 by_cases c3 : (l0.length : Int) = (l1.length : Int)
 case neg =>
  rw [if_neg c3] at H
  have c3b0 : ((l0.length : Int) == (l1.length : Int)) = false := beq_eq_false_iff_ne.mpr c3
  have c3b1 : ((l0.length : Int) != (l1.length : Int)) = true := bne_iff_ne.mpr c3
  have c3b2 : (l0.length == l1.length) = false := by first | simpa using c3 | (simp at c3 ⊢; omega)
  obtain rfl := oin H
  go_enter Tryz.func153, Tryz.ntmps153
  go_wp2
  go_ret
  exact ⟨er, tb HB⟩
 
 
 rw [if_pos c3] at H
 have c3b0 : ((l0.length : Int) == (l1.length : Int)) = true := beq_iff_eq.mpr c3
 have c3b1 : ((l0.length : Int) != (l1.length : Int)) = false := bne_eq_false_iff_eq.mpr c3
 have c3b2 : (l0.length == l1.length) = true := by first | simpa using c3 | (simp at c3 ⊢; omega)
 clear c3
 have H' := Aside0.mk H
 clear H
 go_enter Tryz.func153, Tryz.ntmps153
 go_wp2
 go_loopg [5] k (fun kq v5 w' => ∃ (x5_1 : Int), v5 = .int .i64 x5_1 ∧ Aside0 (laws_eqDescS.l0 kq l0 l1 x5_1 = some r) ∧ Aside0 (kq ≤ k) ∧ Aside0 (Below w.heap.size w w'))
 case atStart => exact ⟨(0), rsd, H', ⟨Nat.le_refl _⟩, ⟨tb HB⟩⟩
 case round =>
  clear H'
  obtain ⟨x5_1, rfl, HA, HK1, HB⟩ := hrel
  cases gk with
  | zero => exact absurd HA.out (by simp [laws_eqDescS.l0])
  | succ k1 =>
   have H := HA.out
   clear HA
   simp only [laws_eqDescS.l0] at H
   revert H; refine icd (fun c4b0 H => ?_) fun c4b0 H => ?neg
   case neg =>
    obtain rfl := oin H
    go_wp2
    go_ret
    exact ⟨er, tb HB⟩
   obtain ⟨c5b0, H⟩ := itd H
   obtain ⟨c6b0, H⟩ := itd H
   obtain ⟨t530, A7, H⟩ := bn H
   try dsimp only at H
   cases t530
   case false =>
    replace H := ipf H
    obtain rfl := oin H
    try go_wp2
    replace HB := Aside0.mk (below_drew1 HB.out)
    have p528 : 0 ≤ (x5_1 : Int) := od
    have q528 : x5_1 < (l0.length : Int) := od
    obtain ⟨ad528, A528_2, c528_2, A528_4, c528_4, e528, hx528, hl528_2, hi528_2, hl528_4, hi528_4⟩ := att52 HR0.out x5_1 p528 q528
    have hw528 := hx528
    cases e528
    replace hx528 := ox5 HB hx528
    have HR528_2 := Aside0.mk hi528_2
    have HC528_2 := Aside0.mk hl528_2
    clear hi528_2 hl528_2
    have HR528_4 := Aside0.mk hi528_4
    have HC528_4 := Aside0.mk hl528_4
    clear hi528_4 hl528_4
    replace p528 := eq_true p528
    replace q528 := eq_true q528
    have p529 : 0 ≤ (x5_1 : Int) := od
    have q529 : x5_1 < (l1.length : Int) := od
    obtain ⟨ad529, A529_2, c529_2, A529_4, c529_4, e529, hx529, hl529_2, hi529_2, hl529_4, hi529_4⟩ := att52 HR1.out x5_1 p529 q529
    have hw529 := hx529
    cases e529
    replace hx529 := ox5 HB hx529
    have HR529_2 := Aside0.mk hi529_2
    have HC529_2 := Aside0.mk hl529_2
    clear hi529_2 hl529_2
    have HR529_4 := Aside0.mk hi529_4
    have HC529_4 := Aside0.mk hl529_4
    clear hi529_4 hl529_4
    replace p529 := eq_true p529
    replace q529 := eq_true q529
    refine start_ (n := 10) (S := fun w' => eT52 (ad528.add ((x5_1).toNat * 5)) (rd_T52 l0 x5_1) A528_2 c528_2 A528_4 c528_4 w' ∧ eT52 (ad529.add ((x5_1).toNat * 5)) (rd_T52 l1 x5_1) A529_2 c529_2 A529_4 c529_4 w') (ds := []) #[false, false, false, false, false, false, false, false, false, false] (by kernel_rfl) rfl rfl ⟨(ox5 HB hw528 :), (ox5 HB hw529 :)⟩ (fun hHeld => ?_); refine with_tabW laws_eqDescS.tab6 laws_eqDescS.bits6 (fun HT_ HW_ => ?_)
    generalize wr.drew = w11 at HB HR528_2 HR528_4 HR529_2 HR529_4 hx528 hx529 hHeld ⊢
    refine pu 0 17 ?_; refine pu 1 18 ?_; refine pu 2 19 ?_; refine pu 4 21 ?_; refine pu 5 22 ?_; refine pu 6 23 ?_; refine ta 3 20 ?_; refine ta 7 24 ?_
    refine on1 8 (some 25) (fun K hK => ?_)
    refine gS Tryz.func183 #[.agg #[.int .i64 ((rd_T52 l0 x5_1).f0), .int .i64 ((rd_T52 l0 x5_1).f1), .slice A528_2 ((rd_T52 l0 x5_1).f2).length c528_2, .int .i64 ((rd_T52 l0 x5_1).f3.f0), .slice A528_4 ((rd_T52 l0 x5_1).f3.f1).length c528_4], .agg #[.int .i64 ((rd_T52 l1 x5_1).f0), .int .i64 ((rd_T52 l1 x5_1).f1), .slice A529_2 ((rd_T52 l1 x5_1).f2).length c529_2, .int .i64 ((rd_T52 l1 x5_1).f3.f0), .slice A529_4 ((rd_T52 l1 x5_1).f3.f1).length c529_4]] ?_
    with_reducible refine (laws_eqDesc.calls k1 ((rd_T52 l0 x5_1).f0) ((rd_T52 l0 x5_1).f1) _ _ ((rd_T52 l0 x5_1).f2) ((rd_T52 l0 x5_1).f3.f0) _ _ ((rd_T52 l0 x5_1).f3.f1) ((rd_T52 l1 x5_1).f0) ((rd_T52 l1 x5_1).f1) _ _ ((rd_T52 l1 x5_1).f2) ((rd_T52 l1 x5_1).f3.f0) _ _ ((rd_T52 l1 x5_1).f3.f1) false _ ?side1 ?side2 ?side3 ?side4 ?side5 ?side6 ?side7 ?side8 A7.out).mono ?_
    (case side1 => exact kc HR528_2 HB)
    (case side2 => exact HC528_2.out)
    (case side3 => exact kc HR528_4 HB)
    (case side4 => exact HC528_4.out)
    (case side5 => exact kc HR529_2 HB)
    (case side6 => exact HC529_2.out)
    (case side7 => exact kc HR529_4 HB)
    (case side8 => exact HC529_4.out)
    rintro e w12 ⟨rfl, hb⟩
    refine ⟨_, rfl, ?_⟩
    replace HB := bs HB hb
    (try clear hb)
    (try clear hb2)
    (try clear hk)
    (try clear hi)
    refine hK.out _ _ ⟨(ox5 HB hw528 :), (ox5 HB hw529 :)⟩ (fun hHeld => ?_)
    clear hK K
    refine nm 25 ?_
    refine pu 9 26 ?_
    refine done_ (done_of HT_.out (by kernel_rfl)) ?_
    try go_wp2
    go_ret
    exact ⟨er, tb HB⟩
   replace H := ipt H
   have H' := Aside0.mk H
   clear H
   try go_wp2
   replace HB := Aside0.mk (below_drew1 HB.out)
   have p528 : 0 ≤ (x5_1 : Int) := od
   have q528 : x5_1 < (l0.length : Int) := od
   obtain ⟨ad528, A528_2, c528_2, A528_4, c528_4, e528, hx528, hl528_2, hi528_2, hl528_4, hi528_4⟩ := att52 HR0.out x5_1 p528 q528
   have hw528 := hx528
   cases e528
   replace hx528 := ox5 HB hx528
   have HR528_2 := Aside0.mk hi528_2
   have HC528_2 := Aside0.mk hl528_2
   clear hi528_2 hl528_2
   have HR528_4 := Aside0.mk hi528_4
   have HC528_4 := Aside0.mk hl528_4
   clear hi528_4 hl528_4
   replace p528 := eq_true p528
   replace q528 := eq_true q528
   have p529 : 0 ≤ (x5_1 : Int) := od
   have q529 : x5_1 < (l1.length : Int) := od
   obtain ⟨ad529, A529_2, c529_2, A529_4, c529_4, e529, hx529, hl529_2, hi529_2, hl529_4, hi529_4⟩ := att52 HR1.out x5_1 p529 q529
   have hw529 := hx529
   cases e529
   replace hx529 := ox5 HB hx529
   have HR529_2 := Aside0.mk hi529_2
   have HC529_2 := Aside0.mk hl529_2
   clear hi529_2 hl529_2
   have HR529_4 := Aside0.mk hi529_4
   have HC529_4 := Aside0.mk hl529_4
   clear hi529_4 hl529_4
   replace p529 := eq_true p529
   replace q529 := eq_true q529
   refine start_ (n := 10) (S := fun w' => eT52 (ad528.add ((x5_1).toNat * 5)) (rd_T52 l0 x5_1) A528_2 c528_2 A528_4 c528_4 w' ∧ eT52 (ad529.add ((x5_1).toNat * 5)) (rd_T52 l1 x5_1) A529_2 c529_2 A529_4 c529_4 w') (ds := []) #[false, false, false, false, false, false, false, false, false, false] (by kernel_rfl) rfl rfl ⟨(ox5 HB hw528 :), (ox5 HB hw529 :)⟩ (fun hHeld => ?_); refine with_tabW laws_eqDescS.tab6 laws_eqDescS.bits6 (fun HT_ HW_ => ?_)
   generalize wr.drew = w9 at HB HR528_2 HR528_4 HR529_2 HR529_4 hx528 hx529 hHeld ⊢
   refine pu 0 17 ?_; refine pu 1 18 ?_; refine pu 2 19 ?_; refine pu 4 21 ?_; refine pu 5 22 ?_; refine pu 6 23 ?_; refine ta 3 20 ?_; refine ta 7 24 ?_
   refine on1 8 (some 25) (fun K hK => ?_)
   refine gS Tryz.func183 #[.agg #[.int .i64 ((rd_T52 l0 x5_1).f0), .int .i64 ((rd_T52 l0 x5_1).f1), .slice A528_2 ((rd_T52 l0 x5_1).f2).length c528_2, .int .i64 ((rd_T52 l0 x5_1).f3.f0), .slice A528_4 ((rd_T52 l0 x5_1).f3.f1).length c528_4], .agg #[.int .i64 ((rd_T52 l1 x5_1).f0), .int .i64 ((rd_T52 l1 x5_1).f1), .slice A529_2 ((rd_T52 l1 x5_1).f2).length c529_2, .int .i64 ((rd_T52 l1 x5_1).f3.f0), .slice A529_4 ((rd_T52 l1 x5_1).f3.f1).length c529_4]] ?_
   with_reducible refine (laws_eqDesc.calls k1 ((rd_T52 l0 x5_1).f0) ((rd_T52 l0 x5_1).f1) _ _ ((rd_T52 l0 x5_1).f2) ((rd_T52 l0 x5_1).f3.f0) _ _ ((rd_T52 l0 x5_1).f3.f1) ((rd_T52 l1 x5_1).f0) ((rd_T52 l1 x5_1).f1) _ _ ((rd_T52 l1 x5_1).f2) ((rd_T52 l1 x5_1).f3.f0) _ _ ((rd_T52 l1 x5_1).f3.f1) true _ ?side1 ?side2 ?side3 ?side4 ?side5 ?side6 ?side7 ?side8 A7.out).mono ?_
   (case side1 => exact kc HR528_2 HB)
   (case side2 => exact HC528_2.out)
   (case side3 => exact kc HR528_4 HB)
   (case side4 => exact HC528_4.out)
   (case side5 => exact kc HR529_2 HB)
   (case side6 => exact HC529_2.out)
   (case side7 => exact kc HR529_4 HB)
   (case side8 => exact HC529_4.out)
   rintro e w10 ⟨rfl, hb⟩
   refine ⟨_, rfl, ?_⟩
   replace HB := bs HB hb
   (try clear hb)
   (try clear hb2)
   (try clear hk)
   (try clear hi)
   refine hK.out _ _ ⟨(ox5 HB hw528 :), (ox5 HB hw529 :)⟩ (fun hHeld => ?_)
   clear hK K
   refine nm 25 ?_
   refine pu 9 26 ?_
   refine done_ (done_of HT_.out (by kernel_rfl)) ?_
   try go_wp2
   go_roundg k1
   case measure => have := HK1.out; omega
   case rel => exact ⟨(wrap64 (x5_1 + 1)), rsd, H', ⟨by have := HK1.out; omega⟩, ⟨tb HB⟩⟩
def laws_eqThreadS.l0 : Nat → List (S82) → List (S82) → Int → Option (Bool)
 | 0, _, _, _ => none
 | k + 1, x0, x1, x5 => if x5 < (x0.length : Int) then (if 0 ≤ x5 then (if x5 < (x1.length : Int) then ((laws_eqThread.f k ((rd_T82 x0 x5).f0) ((rd_T82 x0 x5).f1) ((rd_T82 x0 x5).f2) ((rd_T82 x0 x5).f3) ((rd_T82 x0 x5).f4) ((rd_T82 x1 x5).f0) ((rd_T82 x1 x5).f1) ((rd_T82 x1 x5).f2) ((rd_T82 x1 x5).f3) ((rd_T82 x1 x5).f4)).bind fun t557 => (if t557 = true then (laws_eqThreadS.l0 k x0 x1 (wrap64 (x5 + 1))) else (some false))) else (none)) else (none)) else (some true)
def laws_eqThreadS.f (k : Nat) (l0 : List (S82)) (l1 : List (S82)) : Option (Bool) := if (l0.length : Int) = (l1.length : Int) then (laws_eqThreadS.l0 k l0 l1 0) else (some false)
def laws_eqThreadS.T6 : Bool × List (List Nat × List Nat) := (true, [([], []), ([], []), ([0, 1], [0, 1]), ([2], [2]), ([], []), ([], []), ([4, 5], [4, 5]), ([6], [6]), ([3, 7], [3, 7]), ([8], [8])])
def laws_eqThreadS.B6 : List Nat := [0, 0, 3, 7, 0, 0, 48, 112, 255, 511]
theorem laws_eqThreadS.tab6 : rtab .any (opsOf Tryz.f99 6) = laws_eqThreadS.T6 := by kernel_rfl
theorem laws_eqThreadS.bits6 : waitsOk laws_eqThreadS.T6.2 laws_eqThreadS.B6 = true := by kernel_rfl
set_option maxHeartbeats 8000000 in
set_option maxRecDepth 100000 in
theorem laws_eqThreadS.calls (k : Nat) (A0 : Option Addr) (c0 : Nat) (l0 : List (S82)) (A1 : Option Addr) (c1 : Nat) (l1 : List (S82)) (r : Bool) (w : World) (hr0 : Kd.C k82 w A0 l0.length l0) (hc0 : l0.length ≤ c0) (hr1 : Kd.C k82 w A1 l1.length l1) (hc1 : l1.length ≤ c1) (h : laws_eqThreadS.f k l0 l1 = some r) :
  Calls Tryz.prog 99 #[.slice A0 l0.length c0, .slice A1 l1.length c1] w fun e w' => e = .returned (.bool r) ∧ Below w.heap.size w w' := by
 have hu82 := Tryz.underlying82
 have HR0 := Aside0.mk hr0
 have HC0 := Aside0.mk hc0
 clear hr0 hc0
 have HR1 := Aside0.mk hr1
 have HC1 := Aside0.mk hc1
 clear hr1 hc1
 have HB := Aside0.mk (Below.refl w.heap.size w)
 have H := h
 clear h
 unfold laws_eqThreadS.f at H
 by_cases c3 : (l0.length : Int) = (l1.length : Int)
 case neg =>
  rw [if_neg c3] at H
  have c3b0 : ((l0.length : Int) == (l1.length : Int)) = false := beq_eq_false_iff_ne.mpr c3
  have c3b1 : ((l0.length : Int) != (l1.length : Int)) = true := bne_iff_ne.mpr c3
  have c3b2 : (l0.length == l1.length) = false := by first | simpa using c3 | (simp at c3 ⊢; omega)
  obtain rfl := oin H
  go_enter Tryz.func99, Tryz.ntmps99
  go_wp2
  go_ret
  exact ⟨er, tb HB⟩
 
 
 rw [if_pos c3] at H
 have c3b0 : ((l0.length : Int) == (l1.length : Int)) = true := beq_iff_eq.mpr c3
 have c3b1 : ((l0.length : Int) != (l1.length : Int)) = false := bne_eq_false_iff_eq.mpr c3
 have c3b2 : (l0.length == l1.length) = true := by first | simpa using c3 | (simp at c3 ⊢; omega)
 clear c3
 have H' := Aside0.mk H
 clear H
 go_enter Tryz.func99, Tryz.ntmps99
 go_wp2
 go_loopg [5] k (fun kq v5 w' => ∃ (x5_1 : Int), v5 = .int .i64 x5_1 ∧ Aside0 (laws_eqThreadS.l0 kq l0 l1 x5_1 = some r) ∧ Aside0 (kq ≤ k) ∧ Aside0 (Below w.heap.size w w'))
 case atStart => exact ⟨(0), rsd, H', ⟨Nat.le_refl _⟩, ⟨tb HB⟩⟩
 case round =>
  clear H'
  obtain ⟨x5_1, rfl, HA, HK1, HB⟩ := hrel
  cases gk with
  | zero => exact absurd HA.out (by simp [laws_eqThreadS.l0])
  | succ k1 =>
   have H := HA.out
   clear HA
   simp only [laws_eqThreadS.l0] at H
   revert H; refine icd (fun c4b0 H => ?_) fun c4b0 H => ?neg
   case neg =>
    obtain rfl := oin H
    go_wp2
    go_ret
    exact ⟨er, tb HB⟩
   obtain ⟨c5b0, H⟩ := itd H
   obtain ⟨c6b0, H⟩ := itd H
   obtain ⟨t557, A7, H⟩ := bn H
   try dsimp only at H
   cases t557
   case false =>
    replace H := ipf H
    obtain rfl := oin H
    try go_wp2
    replace HB := Aside0.mk (below_drew1 HB.out)
    have p555 : 0 ≤ (x5_1 : Int) := od
    have q555 : x5_1 < (l0.length : Int) := od
    obtain ⟨ad555, A555_0, c555_0, A555_3, c555_3, A555_4, c555_4, e555, hx555, hl555_0, hi555_0, hl555_3, hi555_3, hl555_4, hi555_4⟩ := att82 HR0.out x5_1 p555 q555
    have hw555 := hx555
    cases e555
    replace hx555 := ox5 HB hx555
    have HR555_0 := Aside0.mk hi555_0
    have HC555_0 := Aside0.mk hl555_0
    clear hi555_0 hl555_0
    have HR555_3 := Aside0.mk hi555_3
    have HC555_3 := Aside0.mk hl555_3
    clear hi555_3 hl555_3
    have HR555_4 := Aside0.mk hi555_4
    have HC555_4 := Aside0.mk hl555_4
    clear hi555_4 hl555_4
    replace p555 := eq_true p555
    replace q555 := eq_true q555
    have p556 : 0 ≤ (x5_1 : Int) := od
    have q556 : x5_1 < (l1.length : Int) := od
    obtain ⟨ad556, A556_0, c556_0, A556_3, c556_3, A556_4, c556_4, e556, hx556, hl556_0, hi556_0, hl556_3, hi556_3, hl556_4, hi556_4⟩ := att82 HR1.out x5_1 p556 q556
    have hw556 := hx556
    cases e556
    replace hx556 := ox5 HB hx556
    have HR556_0 := Aside0.mk hi556_0
    have HC556_0 := Aside0.mk hl556_0
    clear hi556_0 hl556_0
    have HR556_3 := Aside0.mk hi556_3
    have HC556_3 := Aside0.mk hl556_3
    clear hi556_3 hl556_3
    have HR556_4 := Aside0.mk hi556_4
    have HC556_4 := Aside0.mk hl556_4
    clear hi556_4 hl556_4
    replace p556 := eq_true p556
    replace q556 := eq_true q556
    refine start_ (n := 10) (S := fun w' => eT82 (ad555.add ((x5_1).toNat * 5)) (rd_T82 l0 x5_1) A555_0 c555_0 A555_3 c555_3 A555_4 c555_4 w' ∧ eT82 (ad556.add ((x5_1).toNat * 5)) (rd_T82 l1 x5_1) A556_0 c556_0 A556_3 c556_3 A556_4 c556_4 w') (ds := []) #[false, false, false, false, false, false, false, false, false, false] (by kernel_rfl) rfl rfl ⟨(ox5 HB hw555 :), (ox5 HB hw556 :)⟩ (fun hHeld => ?_); refine with_tabW laws_eqThreadS.tab6 laws_eqThreadS.bits6 (fun HT_ HW_ => ?_)
    generalize wr.drew = w11 at HB HR555_0 HR555_3 HR555_4 HR556_0 HR556_3 HR556_4 hx555 hx556 hHeld ⊢
    refine pu 0 17 ?_; refine pu 1 18 ?_; refine pu 2 19 ?_; refine pu 4 21 ?_; refine pu 5 22 ?_; refine pu 6 23 ?_; refine ta 3 20 ?_; refine ta 7 24 ?_
    refine on1 8 (some 25) (fun K hK => ?_)
    refine gS Tryz.func154 #[.agg #[.slice A555_0 ((rd_T82 l0 x5_1).f0).length c555_0, .int .i64 ((rd_T82 l0 x5_1).f1), .bool ((rd_T82 l0 x5_1).f2), .slice A555_3 ((rd_T82 l0 x5_1).f3).length c555_3, .slice A555_4 ((rd_T82 l0 x5_1).f4).length c555_4], .agg #[.slice A556_0 ((rd_T82 l1 x5_1).f0).length c556_0, .int .i64 ((rd_T82 l1 x5_1).f1), .bool ((rd_T82 l1 x5_1).f2), .slice A556_3 ((rd_T82 l1 x5_1).f3).length c556_3, .slice A556_4 ((rd_T82 l1 x5_1).f4).length c556_4]] ?_
    with_reducible refine (laws_eqThread.calls k1 _ _ ((rd_T82 l0 x5_1).f0) ((rd_T82 l0 x5_1).f1) ((rd_T82 l0 x5_1).f2) _ _ ((rd_T82 l0 x5_1).f3) _ _ ((rd_T82 l0 x5_1).f4) _ _ ((rd_T82 l1 x5_1).f0) ((rd_T82 l1 x5_1).f1) ((rd_T82 l1 x5_1).f2) _ _ ((rd_T82 l1 x5_1).f3) _ _ ((rd_T82 l1 x5_1).f4) false _ ?side1 ?side2 ?side3 ?side4 ?side5 ?side6 ?side7 ?side8 ?side9 ?side10 ?side11 ?side12 A7.out).mono ?_
    (case side1 => exact kc HR555_0 HB)
    (case side2 => exact HC555_0.out)
    (case side3 => exact kc HR555_3 HB)
    (case side4 => exact HC555_3.out)
    (case side5 => exact kc HR555_4 HB)
    (case side6 => exact HC555_4.out)
    (case side7 => exact kc HR556_0 HB)
    (case side8 => exact HC556_0.out)
    (case side9 => exact kc HR556_3 HB)
    (case side10 => exact HC556_3.out)
    (case side11 => exact kc HR556_4 HB)
    (case side12 => exact HC556_4.out)
    rintro e w12 ⟨rfl, hb⟩
    refine ⟨_, rfl, ?_⟩
    replace HB := bs HB hb
    (try clear hb)
    (try clear hb2)
    (try clear hk)
    (try clear hi)
    refine hK.out _ _ ⟨(ox5 HB hw555 :), (ox5 HB hw556 :)⟩ (fun hHeld => ?_)
    clear hK K
    refine nm 25 ?_
    refine pu 9 26 ?_
    refine done_ (done_of HT_.out (by kernel_rfl)) ?_
    try go_wp2
    go_ret
    exact ⟨er, tb HB⟩
   replace H := ipt H
   have H' := Aside0.mk H
   clear H
   try go_wp2
   replace HB := Aside0.mk (below_drew1 HB.out)
   have p555 : 0 ≤ (x5_1 : Int) := od
   have q555 : x5_1 < (l0.length : Int) := od
   obtain ⟨ad555, A555_0, c555_0, A555_3, c555_3, A555_4, c555_4, e555, hx555, hl555_0, hi555_0, hl555_3, hi555_3, hl555_4, hi555_4⟩ := att82 HR0.out x5_1 p555 q555
   have hw555 := hx555
   cases e555
   replace hx555 := ox5 HB hx555
   have HR555_0 := Aside0.mk hi555_0
   have HC555_0 := Aside0.mk hl555_0
   clear hi555_0 hl555_0
   have HR555_3 := Aside0.mk hi555_3
   have HC555_3 := Aside0.mk hl555_3
   clear hi555_3 hl555_3
   have HR555_4 := Aside0.mk hi555_4
   have HC555_4 := Aside0.mk hl555_4
   clear hi555_4 hl555_4
   replace p555 := eq_true p555
   replace q555 := eq_true q555
   have p556 : 0 ≤ (x5_1 : Int) := od
   have q556 : x5_1 < (l1.length : Int) := od
   obtain ⟨ad556, A556_0, c556_0, A556_3, c556_3, A556_4, c556_4, e556, hx556, hl556_0, hi556_0, hl556_3, hi556_3, hl556_4, hi556_4⟩ := att82 HR1.out x5_1 p556 q556
   have hw556 := hx556
   cases e556
   replace hx556 := ox5 HB hx556
   have HR556_0 := Aside0.mk hi556_0
   have HC556_0 := Aside0.mk hl556_0
   clear hi556_0 hl556_0
   have HR556_3 := Aside0.mk hi556_3
   have HC556_3 := Aside0.mk hl556_3
   clear hi556_3 hl556_3
   have HR556_4 := Aside0.mk hi556_4
   have HC556_4 := Aside0.mk hl556_4
   clear hi556_4 hl556_4
   replace p556 := eq_true p556
   replace q556 := eq_true q556
   refine start_ (n := 10) (S := fun w' => eT82 (ad555.add ((x5_1).toNat * 5)) (rd_T82 l0 x5_1) A555_0 c555_0 A555_3 c555_3 A555_4 c555_4 w' ∧ eT82 (ad556.add ((x5_1).toNat * 5)) (rd_T82 l1 x5_1) A556_0 c556_0 A556_3 c556_3 A556_4 c556_4 w') (ds := []) #[false, false, false, false, false, false, false, false, false, false] (by kernel_rfl) rfl rfl ⟨(ox5 HB hw555 :), (ox5 HB hw556 :)⟩ (fun hHeld => ?_); refine with_tabW laws_eqThreadS.tab6 laws_eqThreadS.bits6 (fun HT_ HW_ => ?_)
   generalize wr.drew = w9 at HB HR555_0 HR555_3 HR555_4 HR556_0 HR556_3 HR556_4 hx555 hx556 hHeld ⊢
   refine pu 0 17 ?_; refine pu 1 18 ?_; refine pu 2 19 ?_; refine pu 4 21 ?_; refine pu 5 22 ?_; refine pu 6 23 ?_; refine ta 3 20 ?_; refine ta 7 24 ?_
   refine on1 8 (some 25) (fun K hK => ?_)
   refine gS Tryz.func154 #[.agg #[.slice A555_0 ((rd_T82 l0 x5_1).f0).length c555_0, .int .i64 ((rd_T82 l0 x5_1).f1), .bool ((rd_T82 l0 x5_1).f2), .slice A555_3 ((rd_T82 l0 x5_1).f3).length c555_3, .slice A555_4 ((rd_T82 l0 x5_1).f4).length c555_4], .agg #[.slice A556_0 ((rd_T82 l1 x5_1).f0).length c556_0, .int .i64 ((rd_T82 l1 x5_1).f1), .bool ((rd_T82 l1 x5_1).f2), .slice A556_3 ((rd_T82 l1 x5_1).f3).length c556_3, .slice A556_4 ((rd_T82 l1 x5_1).f4).length c556_4]] ?_
   with_reducible refine (laws_eqThread.calls k1 _ _ ((rd_T82 l0 x5_1).f0) ((rd_T82 l0 x5_1).f1) ((rd_T82 l0 x5_1).f2) _ _ ((rd_T82 l0 x5_1).f3) _ _ ((rd_T82 l0 x5_1).f4) _ _ ((rd_T82 l1 x5_1).f0) ((rd_T82 l1 x5_1).f1) ((rd_T82 l1 x5_1).f2) _ _ ((rd_T82 l1 x5_1).f3) _ _ ((rd_T82 l1 x5_1).f4) true _ ?side1 ?side2 ?side3 ?side4 ?side5 ?side6 ?side7 ?side8 ?side9 ?side10 ?side11 ?side12 A7.out).mono ?_
   (case side1 => exact kc HR555_0 HB)
   (case side2 => exact HC555_0.out)
   (case side3 => exact kc HR555_3 HB)
   (case side4 => exact HC555_3.out)
   (case side5 => exact kc HR555_4 HB)
   (case side6 => exact HC555_4.out)
   (case side7 => exact kc HR556_0 HB)
   (case side8 => exact HC556_0.out)
   (case side9 => exact kc HR556_3 HB)
   (case side10 => exact HC556_3.out)
   (case side11 => exact kc HR556_4 HB)
   (case side12 => exact HC556_4.out)
   rintro e w10 ⟨rfl, hb⟩
   refine ⟨_, rfl, ?_⟩
   replace HB := bs HB hb
   (try clear hb)
   (try clear hb2)
   (try clear hk)
   (try clear hi)
   refine hK.out _ _ ⟨(ox5 HB hw555 :), (ox5 HB hw556 :)⟩ (fun hHeld => ?_)
   clear hK K
   refine nm 25 ?_
   refine pu 9 26 ?_
   refine done_ (done_of HT_.out (by kernel_rfl)) ?_
   try go_wp2
   go_roundg k1
   case measure => have := HK1.out; omega
   case rel => exact ⟨(wrap64 (x5_1 + 1)), rsd, H', ⟨by have := HK1.out; omega⟩, ⟨tb HB⟩⟩
def laws_eqCallS.l0 : Nat → List (S134) → List (S134) → Int → Option (Bool)
 | 0, _, _, _ => none
 | k + 1, x0, x1, x5 => if x5 < (x0.length : Int) then (if 0 ≤ x5 then (if x5 < (x1.length : Int) then ((laws_eqCall.f k ((rd_T134 x0 x5).f0) ((rd_T134 x0 x5).f1.f0) ((rd_T134 x0 x5).f1.f1) ((rd_T134 x0 x5).f1.f2) ((rd_T134 x0 x5).f2) ((rd_T134 x0 x5).f3) ((rd_T134 x0 x5).f4) ((rd_T134 x0 x5).f5.f0) ((rd_T134 x0 x5).f5.f1) ((rd_T134 x1 x5).f0) ((rd_T134 x1 x5).f1.f0) ((rd_T134 x1 x5).f1.f1) ((rd_T134 x1 x5).f1.f2) ((rd_T134 x1 x5).f2) ((rd_T134 x1 x5).f3) ((rd_T134 x1 x5).f4) ((rd_T134 x1 x5).f5.f0) ((rd_T134 x1 x5).f5.f1)).bind fun t564 => (if t564 = true then (laws_eqCallS.l0 k x0 x1 (wrap64 (x5 + 1))) else (some false))) else (none)) else (none)) else (some true)
def laws_eqCallS.f (k : Nat) (l0 : List (S134)) (l1 : List (S134)) : Option (Bool) := if (l0.length : Int) = (l1.length : Int) then (laws_eqCallS.l0 k l0 l1 0) else (some false)
def laws_eqCallS.T6 : Bool × List (List Nat × List Nat) := (true, [([], []), ([], []), ([0, 1], [0, 1]), ([2], [2]), ([], []), ([], []), ([4, 5], [4, 5]), ([6], [6]), ([3, 7], [3, 7]), ([8], [8])])
def laws_eqCallS.B6 : List Nat := [0, 0, 3, 7, 0, 0, 48, 112, 255, 511]
theorem laws_eqCallS.tab6 : rtab .any (opsOf Tryz.f100 6) = laws_eqCallS.T6 := by kernel_rfl
theorem laws_eqCallS.bits6 : waitsOk laws_eqCallS.T6.2 laws_eqCallS.B6 = true := by kernel_rfl
set_option maxHeartbeats 8000000 in
set_option maxRecDepth 100000 in
theorem laws_eqCallS.calls (k : Nat) (A0 : Option Addr) (c0 : Nat) (l0 : List (S134)) (A1 : Option Addr) (c1 : Nat) (l1 : List (S134)) (r : Bool) (w : World) (hr0 : Kd.C k134 w A0 l0.length l0) (hc0 : l0.length ≤ c0) (hr1 : Kd.C k134 w A1 l1.length l1) (hc1 : l1.length ≤ c1) (h : laws_eqCallS.f k l0 l1 = some r) :
  Calls Tryz.prog 100 #[.slice A0 l0.length c0, .slice A1 l1.length c1] w fun e w' => e = .returned (.bool r) ∧ Below w.heap.size w w' := by
 have hu134 := Tryz.underlying134
 have HR0 := Aside0.mk hr0
 have HC0 := Aside0.mk hc0
 clear hr0 hc0
 have HR1 := Aside0.mk hr1
 have HC1 := Aside0.mk hc1
 clear hr1 hc1
 have HB := Aside0.mk (Below.refl w.heap.size w)
 have H := h
 clear h
 unfold laws_eqCallS.f at H
 by_cases c3 : (l0.length : Int) = (l1.length : Int)
 case neg =>
  rw [if_neg c3] at H
  have c3b0 : ((l0.length : Int) == (l1.length : Int)) = false := beq_eq_false_iff_ne.mpr c3
  have c3b1 : ((l0.length : Int) != (l1.length : Int)) = true := bne_iff_ne.mpr c3
  have c3b2 : (l0.length == l1.length) = false := by first | simpa using c3 | (simp at c3 ⊢; omega)
  obtain rfl := oin H
  go_enter Tryz.func100, Tryz.ntmps100
  go_wp2
  go_ret
  exact ⟨er, tb HB⟩
 
 
 rw [if_pos c3] at H
 have c3b0 : ((l0.length : Int) == (l1.length : Int)) = true := beq_iff_eq.mpr c3
 have c3b1 : ((l0.length : Int) != (l1.length : Int)) = false := bne_eq_false_iff_eq.mpr c3
 have c3b2 : (l0.length == l1.length) = true := by first | simpa using c3 | (simp at c3 ⊢; omega)
 clear c3
 have H' := Aside0.mk H
 clear H
 go_enter Tryz.func100, Tryz.ntmps100
 go_wp2
 go_loopg [5] k (fun kq v5 w' => ∃ (x5_1 : Int), v5 = .int .i64 x5_1 ∧ Aside0 (laws_eqCallS.l0 kq l0 l1 x5_1 = some r) ∧ Aside0 (kq ≤ k) ∧ Aside0 (Below w.heap.size w w'))
 case atStart => exact ⟨(0), rsd, H', ⟨Nat.le_refl _⟩, ⟨tb HB⟩⟩
 case round =>
  clear H'
  obtain ⟨x5_1, rfl, HA, HK1, HB⟩ := hrel
  cases gk with
  | zero => exact absurd HA.out (by simp [laws_eqCallS.l0])
  | succ k1 =>
   have H := HA.out
   clear HA
   simp only [laws_eqCallS.l0] at H
   revert H; refine icd (fun c4b0 H => ?_) fun c4b0 H => ?neg
   case neg =>
    obtain rfl := oin H
    go_wp2
    go_ret
    exact ⟨er, tb HB⟩
   obtain ⟨c5b0, H⟩ := itd H
   obtain ⟨c6b0, H⟩ := itd H
   obtain ⟨t564, A7, H⟩ := bn H
   try dsimp only at H
   cases t564
   case false =>
    replace H := ipf H
    obtain rfl := oin H
    try go_wp2
    replace HB := Aside0.mk (below_drew1 HB.out)
    have p562 : 0 ≤ (x5_1 : Int) := od
    have q562 : x5_1 < (l0.length : Int) := od
    obtain ⟨ad562, A562_8, c562_8, e562, hx562, hl562_8, hi562_8⟩ := att134 HR0.out x5_1 p562 q562
    have hw562 := hx562
    cases e562
    replace hx562 := ox9 HB hx562
    have HR562_8 := Aside0.mk hi562_8
    have HC562_8 := Aside0.mk hl562_8
    clear hi562_8 hl562_8
    replace p562 := eq_true p562
    replace q562 := eq_true q562
    have p563 : 0 ≤ (x5_1 : Int) := od
    have q563 : x5_1 < (l1.length : Int) := od
    obtain ⟨ad563, A563_8, c563_8, e563, hx563, hl563_8, hi563_8⟩ := att134 HR1.out x5_1 p563 q563
    have hw563 := hx563
    cases e563
    replace hx563 := ox9 HB hx563
    have HR563_8 := Aside0.mk hi563_8
    have HC563_8 := Aside0.mk hl563_8
    clear hi563_8 hl563_8
    replace p563 := eq_true p563
    replace q563 := eq_true q563
    refine start_ (n := 10) (S := fun w' => eT134 (ad562.add ((x5_1).toNat * 9)) (rd_T134 l0 x5_1) A562_8 c562_8 w' ∧ eT134 (ad563.add ((x5_1).toNat * 9)) (rd_T134 l1 x5_1) A563_8 c563_8 w') (ds := []) #[false, false, false, false, false, false, false, false, false, false] (by kernel_rfl) rfl rfl ⟨(ox9 HB hw562 :), (ox9 HB hw563 :)⟩ (fun hHeld => ?_); refine with_tabW laws_eqCallS.tab6 laws_eqCallS.bits6 (fun HT_ HW_ => ?_)
    generalize wr.drew = w11 at HB HR562_8 HR563_8 hx562 hx563 hHeld ⊢
    refine pu 0 17 ?_; refine pu 1 18 ?_; refine pu 2 19 ?_; refine pu 4 21 ?_; refine pu 5 22 ?_; refine pu 6 23 ?_; refine ta 3 20 ?_; refine ta 7 24 ?_
    refine on1 8 (some 25) (fun K hK => ?_)
    refine gS Tryz.func155 #[.agg #[.int .i64 ((rd_T134 l0 x5_1).f0), .int .i64 ((rd_T134 l0 x5_1).f1.f0), .int .i64 ((rd_T134 l0 x5_1).f1.f1), .int .i64 ((rd_T134 l0 x5_1).f1.f2), .int .i64 ((rd_T134 l0 x5_1).f2), .int .i64 ((rd_T134 l0 x5_1).f3), .int .i64 ((rd_T134 l0 x5_1).f4), .int .i64 ((rd_T134 l0 x5_1).f5.f0), .slice A562_8 ((rd_T134 l0 x5_1).f5.f1).length c562_8], .agg #[.int .i64 ((rd_T134 l1 x5_1).f0), .int .i64 ((rd_T134 l1 x5_1).f1.f0), .int .i64 ((rd_T134 l1 x5_1).f1.f1), .int .i64 ((rd_T134 l1 x5_1).f1.f2), .int .i64 ((rd_T134 l1 x5_1).f2), .int .i64 ((rd_T134 l1 x5_1).f3), .int .i64 ((rd_T134 l1 x5_1).f4), .int .i64 ((rd_T134 l1 x5_1).f5.f0), .slice A563_8 ((rd_T134 l1 x5_1).f5.f1).length c563_8]] ?_
    with_reducible refine (laws_eqCall.calls k1 ((rd_T134 l0 x5_1).f0) ((rd_T134 l0 x5_1).f1.f0) ((rd_T134 l0 x5_1).f1.f1) ((rd_T134 l0 x5_1).f1.f2) ((rd_T134 l0 x5_1).f2) ((rd_T134 l0 x5_1).f3) ((rd_T134 l0 x5_1).f4) ((rd_T134 l0 x5_1).f5.f0) _ _ ((rd_T134 l0 x5_1).f5.f1) ((rd_T134 l1 x5_1).f0) ((rd_T134 l1 x5_1).f1.f0) ((rd_T134 l1 x5_1).f1.f1) ((rd_T134 l1 x5_1).f1.f2) ((rd_T134 l1 x5_1).f2) ((rd_T134 l1 x5_1).f3) ((rd_T134 l1 x5_1).f4) ((rd_T134 l1 x5_1).f5.f0) _ _ ((rd_T134 l1 x5_1).f5.f1) false _ ?side1 ?side2 ?side3 ?side4 A7.out).mono ?_
    (case side1 => exact kc HR562_8 HB)
    (case side2 => exact HC562_8.out)
    (case side3 => exact kc HR563_8 HB)
    (case side4 => exact HC563_8.out)
    rintro e w12 ⟨rfl, hb⟩
    refine ⟨_, rfl, ?_⟩
    replace HB := bs HB hb
    (try clear hb)
    (try clear hb2)
    (try clear hk)
    (try clear hi)
    refine hK.out _ _ ⟨(ox9 HB hw562 :), (ox9 HB hw563 :)⟩ (fun hHeld => ?_)
    clear hK K
    refine nm 25 ?_
    refine pu 9 26 ?_
    refine done_ (done_of HT_.out (by kernel_rfl)) ?_
    try go_wp2
    go_ret
    exact ⟨er, tb HB⟩
   replace H := ipt H
   have H' := Aside0.mk H
   clear H
   try go_wp2
   replace HB := Aside0.mk (below_drew1 HB.out)
   have p562 : 0 ≤ (x5_1 : Int) := od
   have q562 : x5_1 < (l0.length : Int) := od
   obtain ⟨ad562, A562_8, c562_8, e562, hx562, hl562_8, hi562_8⟩ := att134 HR0.out x5_1 p562 q562
   have hw562 := hx562
   cases e562
   replace hx562 := ox9 HB hx562
   have HR562_8 := Aside0.mk hi562_8
   have HC562_8 := Aside0.mk hl562_8
   clear hi562_8 hl562_8
   replace p562 := eq_true p562
   replace q562 := eq_true q562
   have p563 : 0 ≤ (x5_1 : Int) := od
   have q563 : x5_1 < (l1.length : Int) := od
   obtain ⟨ad563, A563_8, c563_8, e563, hx563, hl563_8, hi563_8⟩ := att134 HR1.out x5_1 p563 q563
   have hw563 := hx563
   cases e563
   replace hx563 := ox9 HB hx563
   have HR563_8 := Aside0.mk hi563_8
   have HC563_8 := Aside0.mk hl563_8
   clear hi563_8 hl563_8
   replace p563 := eq_true p563
   replace q563 := eq_true q563
   refine start_ (n := 10) (S := fun w' => eT134 (ad562.add ((x5_1).toNat * 9)) (rd_T134 l0 x5_1) A562_8 c562_8 w' ∧ eT134 (ad563.add ((x5_1).toNat * 9)) (rd_T134 l1 x5_1) A563_8 c563_8 w') (ds := []) #[false, false, false, false, false, false, false, false, false, false] (by kernel_rfl) rfl rfl ⟨(ox9 HB hw562 :), (ox9 HB hw563 :)⟩ (fun hHeld => ?_); refine with_tabW laws_eqCallS.tab6 laws_eqCallS.bits6 (fun HT_ HW_ => ?_)
   generalize wr.drew = w9 at HB HR562_8 HR563_8 hx562 hx563 hHeld ⊢
   refine pu 0 17 ?_; refine pu 1 18 ?_; refine pu 2 19 ?_; refine pu 4 21 ?_; refine pu 5 22 ?_; refine pu 6 23 ?_; refine ta 3 20 ?_; refine ta 7 24 ?_
   refine on1 8 (some 25) (fun K hK => ?_)
   refine gS Tryz.func155 #[.agg #[.int .i64 ((rd_T134 l0 x5_1).f0), .int .i64 ((rd_T134 l0 x5_1).f1.f0), .int .i64 ((rd_T134 l0 x5_1).f1.f1), .int .i64 ((rd_T134 l0 x5_1).f1.f2), .int .i64 ((rd_T134 l0 x5_1).f2), .int .i64 ((rd_T134 l0 x5_1).f3), .int .i64 ((rd_T134 l0 x5_1).f4), .int .i64 ((rd_T134 l0 x5_1).f5.f0), .slice A562_8 ((rd_T134 l0 x5_1).f5.f1).length c562_8], .agg #[.int .i64 ((rd_T134 l1 x5_1).f0), .int .i64 ((rd_T134 l1 x5_1).f1.f0), .int .i64 ((rd_T134 l1 x5_1).f1.f1), .int .i64 ((rd_T134 l1 x5_1).f1.f2), .int .i64 ((rd_T134 l1 x5_1).f2), .int .i64 ((rd_T134 l1 x5_1).f3), .int .i64 ((rd_T134 l1 x5_1).f4), .int .i64 ((rd_T134 l1 x5_1).f5.f0), .slice A563_8 ((rd_T134 l1 x5_1).f5.f1).length c563_8]] ?_
   with_reducible refine (laws_eqCall.calls k1 ((rd_T134 l0 x5_1).f0) ((rd_T134 l0 x5_1).f1.f0) ((rd_T134 l0 x5_1).f1.f1) ((rd_T134 l0 x5_1).f1.f2) ((rd_T134 l0 x5_1).f2) ((rd_T134 l0 x5_1).f3) ((rd_T134 l0 x5_1).f4) ((rd_T134 l0 x5_1).f5.f0) _ _ ((rd_T134 l0 x5_1).f5.f1) ((rd_T134 l1 x5_1).f0) ((rd_T134 l1 x5_1).f1.f0) ((rd_T134 l1 x5_1).f1.f1) ((rd_T134 l1 x5_1).f1.f2) ((rd_T134 l1 x5_1).f2) ((rd_T134 l1 x5_1).f3) ((rd_T134 l1 x5_1).f4) ((rd_T134 l1 x5_1).f5.f0) _ _ ((rd_T134 l1 x5_1).f5.f1) true _ ?side1 ?side2 ?side3 ?side4 A7.out).mono ?_
   (case side1 => exact kc HR562_8 HB)
   (case side2 => exact HC562_8.out)
   (case side3 => exact kc HR563_8 HB)
   (case side4 => exact HC563_8.out)
   rintro e w10 ⟨rfl, hb⟩
   refine ⟨_, rfl, ?_⟩
   replace HB := bs HB hb
   (try clear hb)
   (try clear hb2)
   (try clear hk)
   (try clear hi)
   refine hK.out _ _ ⟨(ox9 HB hw562 :), (ox9 HB hw563 :)⟩ (fun hHeld => ?_)
   clear hK K
   refine nm 25 ?_
   refine pu 9 26 ?_
   refine done_ (done_of HT_.out (by kernel_rfl)) ?_
   try go_wp2
   go_roundg k1
   case measure => have := HK1.out; omega
   case rel => exact ⟨(wrap64 (x5_1 + 1)), rsd, H', ⟨by have := HK1.out; omega⟩, ⟨tb HB⟩⟩
mutual
def spec_ThreadOk.j0 : Nat → Int → Bool → List (S132) → Int → Bool → List (S145) → List (S42) → Option (Bool)
 | 0, _, _, _, _, _, _, _ => none
 | k + 1, x1, x60, x140000, x140001, x140002, x140003, x140004 => if x60 = true then (some false) else (spec_ThreadOk.l0 k x1 0 x140000 x140001 x140002 x140003 x140004)
def spec_ThreadOk.l0 : Nat → Int → Int → List (S132) → Int → Bool → List (S145) → List (S42) → Option (Bool)
 | 0, _, _, _, _, _, _, _ => none
 | k + 1, x1, x5, x140000, x140001, x140002, x140003, x140004 => if x5 < (x140000.length : Int) then (if 0 ≤ x5 then ((spec_OpOk.f k ((rd_T132 x140000 x5).f0) ((rd_T132 x140000 x5).f1) ((rd_T132 x140000 x5).f2)).bind fun t142 => (if t142 = true then (spec_ThreadOk.l0 k x1 (wrap64 (x5 + 1)) x140000 x140001 x140002 x140003 x140004) else (some false))) else (none)) else (spec_ThreadOk.l1 k x1 0 x140000 x140001 x140002 x140003 x140004)
def spec_ThreadOk.l1 : Nat → Int → Int → List (S132) → Int → Bool → List (S145) → List (S42) → Option (Bool)
 | 0, _, _, _, _, _, _, _ => none
 | k + 1, x1, x6, x140000, x140001, x140002, x140003, x140004 => if x6 < (x140003.length : Int) then (if 0 ≤ x6 then ((spec_l1In.f ((rd_T145 x140003 x6).f0) 0 19).bind fun t144 => (if t144 = true then ((spec_l1In.f ((rd_T145 x140003 x6).f1) 0 1000).bind fun t146 => (if t146 = true then (spec_ThreadOk.l1 k x1 (wrap64 (x6 + 1)) x140000 x140001 x140002 x140003 x140004) else (some false))) else (some false))) else (none)) else (spec_ThreadOk.l2 k x1 0 x140000 x140001 x140002 x140003 x140004)
def spec_ThreadOk.l2 : Nat → Int → Int → List (S132) → Int → Bool → List (S145) → List (S42) → Option (Bool)
 | 0, _, _, _, _, _, _, _ => none
 | k + 1, x1, x7, x140000, x140001, x140002, x140003, x140004 => if x7 < (x140004.length : Int) then (if 0 ≤ x7 then (if ((rd_T42 x140004 x7).f0) < 0 then (some false) else (if ((rd_T42 x140004 x7).f0) ≥ x1 then (some false) else ((spec_l1In.f ((rd_T42 x140004 x7).f1) 1 1000000).bind fun t149 => (if t149 = true then ((spec_l1In.f ((rd_T42 x140004 x7).f2) 0 20).bind fun t150 => (if t150 = true then ((spec_l1In.f ((rd_T42 x140004 x7).f3) 0 20).bind fun t151 => (if t151 = true then (spec_ThreadOk.l2 k x1 (wrap64 (x7 + 1)) x140000 x140001 x140002 x140003 x140004) else (some false))) else (some false))) else (some false))))) else (none)) else (some true)
end
def spec_ThreadOk.f (k : Nat) (l0_0 : List (S132)) (a0_1 : Int) (a0_2 : Bool) (l0_3 : List (S145)) (l0_4 : List (S42)) (a1 : Int) : Option (Bool) := if (l0_0.length : Int) > 8 then (spec_ThreadOk.j0 k a1 true l0_0 a0_1 a0_2 l0_3 l0_4) else ((spec_l1In.f a0_1 0 (l0_0.length : Int)).bind fun t140 => (if t140 = true then (if a0_2 = true then (if a0_1 ≥ (l0_0.length : Int) then (spec_ThreadOk.j0 k a1 true l0_0 a0_1 a0_2 l0_3 l0_4) else (if (l0_3.length : Int) > 12 then (spec_ThreadOk.j0 k a1 true l0_0 a0_1 a0_2 l0_3 l0_4) else (spec_ThreadOk.j0 k a1 (decide ((l0_4.length : Int) > 2)) l0_0 a0_1 a0_2 l0_3 l0_4))) else (if (wrap64 ((l0_3.length : Int) + (l0_4.length : Int))) > 0 then (spec_ThreadOk.j0 k a1 true l0_0 a0_1 a0_2 l0_3 l0_4) else (if (l0_3.length : Int) > 12 then (spec_ThreadOk.j0 k a1 true l0_0 a0_1 a0_2 l0_3 l0_4) else (spec_ThreadOk.j0 k a1 (decide ((l0_4.length : Int) > 2)) l0_0 a0_1 a0_2 l0_3 l0_4)))) else (spec_ThreadOk.j0 k a1 true l0_0 a0_1 a0_2 l0_3 l0_4)))
set_option maxHeartbeats 8000000 in
set_option maxRecDepth 100000 in
theorem spec_ThreadOk.calls (k : Nat) (A0_0 : Option Addr) (c0_0 : Nat) (l0_0 : List (S132)) (a0_1 : Int) (a0_2 : Bool) (A0_3 : Option Addr) (c0_3 : Nat) (l0_3 : List (S145)) (A0_4 : Option Addr) (c0_4 : Nat) (l0_4 : List (S42)) (a1 : Int) (r : Bool) (w : World) (hr0_0 : Kd.C k132 w A0_0 l0_0.length l0_0) (hc0_0 : l0_0.length ≤ c0_0) (hr0_3 : Kd.C k145 w A0_3 l0_3.length l0_3) (hc0_3 : l0_3.length ≤ c0_3) (hr0_4 : Kd.C k42 w A0_4 l0_4.length l0_4) (hc0_4 : l0_4.length ≤ c0_4) (h : spec_ThreadOk.f k l0_0 a0_1 a0_2 l0_3 l0_4 a1 = some r) :
  Calls Tryz.prog 48 #[.agg #[.slice A0_0 l0_0.length c0_0, .int .i64 a0_1, .bool a0_2, .slice A0_3 l0_3.length c0_3, .slice A0_4 l0_4.length c0_4], .int .i64 a1] w fun e w' => e = .returned (.bool r) ∧ Below w.heap.size w w' := by
 have hu82 := Tryz.underlying82
 have hu132 := Tryz.underlying132
 have hu42 := Tryz.underlying42
 have HR0_0 := Aside0.mk hr0_0
 have HC0_0 := Aside0.mk hc0_0
 clear hr0_0 hc0_0
 have HR0_3 := Aside0.mk hr0_3
 have HC0_3 := Aside0.mk hc0_3
 clear hr0_3 hc0_3
 have HR0_4 := Aside0.mk hr0_4
 have HC0_4 := Aside0.mk hc0_4
 clear hr0_4 hc0_4
 have HB := Aside0.mk (Below.refl w.heap.size w)
 have H := h
 clear h
 unfold spec_ThreadOk.f at H
 have HC3 := Aside0.mk H
 clear H
 go_enter Tryz.func48, Tryz.ntmps48
 go_upto_region 1 with (first | ((with_reducible refine gq 2 rfl ?_); (try (refine gate_guard (by rfl) ?_; dsimp only)); refine bx0 HB (N := 2) (t := 82) ?_; clear HB; intro gb139 w4 BK139 GE139 HB))
 (try simp only [Act.put, sA, sB, sC])
 go_cut [60] (fun v60 wc => ∃ (kq : Nat) (x60_2 : Bool), v60 = .bool x60_2 ∧ Aside0 (spec_ThreadOk.j0 kq a1 x60_2 l0_0 a0_1 a0_2 l0_3 l0_4 = some r) ∧ Aside0 (kq ≤ k) ∧ Aside0 (wc.heap[gb139]? = some (.cells #[(.slice A0_0 l0_0.length c0_0), .int .i64 a0_1, .bool a0_2, (.slice A0_3 l0_3.length c0_3), (.slice A0_4 l0_4.length c0_4)] 82 (0, 0))) ∧ Aside0 (Below w.heap.size w wc))
 case first =>
  have H := HC3.out
  clear HC3
  by_cases c5 : (l0_0.length : Int) > 8
  case pos =>
   rw [if_pos c5] at H
   have c5b0 := decide_eq_true c5
   have c5b1 : decide (8 < l0_0.length) = true := decide_eq_true (by omega)
   clear c5
   (first | rw [c5b0] | (simp only [i64_w, i32_w]; rw [c5b0]) | skip)
   have H' := Aside0.mk H
   clear H
   have hz6 := cs5_ BK139
   go_wp2
   go_meet
   case rel => exact ⟨_, (true), rsd, H', ⟨by first | omega | exact Nat.le_refl _⟩, ⟨by (with_reducible repeat (first | refine blk_drewN ?_ _ | refine blk_drew ?_ | refine blk_alloc ?_ _)); exact BK139.out⟩, ⟨tb HB⟩⟩
  rw [if_neg c5] at H
  have c5b0 := decide_eq_false c5
  have c5b1 : decide (8 < l0_0.length) = false := decide_eq_false (by omega)
  clear c5
  (first | rw [c5b0] | (simp only [i64_w, i32_w]; rw [c5b0]) | skip)
  obtain ⟨t140, A7, H⟩ := bn H
  try dsimp only at H
  cases t140
  case false =>
   replace H := ipf H
   have H' := Aside0.mk H
   clear H
   have hz20 := cs5_ BK139
   go_wp2_with (first | (go_at_call 70; (with_reducible refine (spec_l1In.calls a0_1 0 (l0_0.length : Int) false _ A7.out).mono ?_); rintro e w' ⟨rfl, ⟨nd, rfl⟩⟩))
   go_meet
   case rel => exact ⟨_, (true), rsd, H', ⟨by first | omega | exact Nat.le_refl _⟩, ⟨by (with_reducible repeat (first | refine blk_drewN ?_ _ | refine blk_drew ?_ | refine blk_alloc ?_ _)); exact BK139.out⟩, ⟨tb HB⟩⟩
  replace H := ipt H
  cases a0_2
  case true =>
   replace H := ipt H
   revert H; refine icd (fun c10b0 H => ?pos) fun c10b0 H => ?_
   case pos =>
    have H' := Aside0.mk H
    clear H
    have hz11 := cs5_ BK139
    go_wp2_with (first | (go_at_call 70; (with_reducible refine (spec_l1In.calls a0_1 0 (l0_0.length : Int) true _ A7.out).mono ?_); rintro e w' ⟨rfl, ⟨nd, rfl⟩⟩))
    go_meet
    case rel => exact ⟨_, (true), rsd, H', ⟨by first | omega | exact Nat.le_refl _⟩, ⟨by (with_reducible repeat (first | refine blk_drewN ?_ _ | refine blk_drew ?_ | refine blk_alloc ?_ _)); exact BK139.out⟩, ⟨tb HB⟩⟩
   by_cases c12 : (l0_3.length : Int) > 12
   case neg =>
    rw [if_neg c12] at H
    have c12b0 := decide_eq_false c12
    have c12b1 : decide (12 < l0_3.length) = false := decide_eq_false (by omega)
    clear c12
    have H' := Aside0.mk H
    clear H
    have hz14 := cs5_ BK139
    go_wp2_with (first | (go_at_call 70; (with_reducible refine (spec_l1In.calls a0_1 0 (l0_0.length : Int) true _ A7.out).mono ?_); rintro e w' ⟨rfl, ⟨nd, rfl⟩⟩))
    go_meet
    case rel => exact ⟨_, (decide ((l0_4.length : Int) > 2)), rsd, H', ⟨by first | omega | exact Nat.le_refl _⟩, ⟨by (with_reducible repeat (first | refine blk_drewN ?_ _ | refine blk_drew ?_ | refine blk_alloc ?_ _)); exact BK139.out⟩, ⟨tb HB⟩⟩
   rw [if_pos c12] at H
   have c12b0 := decide_eq_true c12
   have c12b1 : decide (12 < l0_3.length) = true := decide_eq_true (by omega)
   clear c12
   have H' := Aside0.mk H
   clear H
   have hz13 := cs5_ BK139
   go_wp2_with (first | (go_at_call 70; (with_reducible refine (spec_l1In.calls a0_1 0 (l0_0.length : Int) true _ A7.out).mono ?_); rintro e w' ⟨rfl, ⟨nd, rfl⟩⟩))
   go_meet
   case rel => exact ⟨_, (true), rsd, H', ⟨by first | omega | exact Nat.le_refl _⟩, ⟨by (with_reducible repeat (first | refine blk_drewN ?_ _ | refine blk_drew ?_ | refine blk_alloc ?_ _)); exact BK139.out⟩, ⟨tb HB⟩⟩
  replace H := ipf H
  revert H; refine icd (fun c15b0 H => ?pos) fun c15b0 H => ?_
  case pos =>
   have H' := Aside0.mk H
   clear H
   have hz16 := cs5_ BK139
   go_wp2_with (first | (go_at_call 70; (with_reducible refine (spec_l1In.calls a0_1 0 (l0_0.length : Int) true _ A7.out).mono ?_); rintro e w' ⟨rfl, ⟨nd, rfl⟩⟩))
   go_meet
   case rel => exact ⟨_, (true), rsd, H', ⟨by first | omega | exact Nat.le_refl _⟩, ⟨by (with_reducible repeat (first | refine blk_drewN ?_ _ | refine blk_drew ?_ | refine blk_alloc ?_ _)); exact BK139.out⟩, ⟨tb HB⟩⟩
  by_cases c17 : (l0_3.length : Int) > 12
  case neg =>
   rw [if_neg c17] at H
   have c17b0 := decide_eq_false c17
   have c17b1 : decide (12 < l0_3.length) = false := decide_eq_false (by omega)
   clear c17
   have H' := Aside0.mk H
   clear H
   have hz19 := cs5_ BK139
   go_wp2_with (first | (go_at_call 70; (with_reducible refine (spec_l1In.calls a0_1 0 (l0_0.length : Int) true _ A7.out).mono ?_); rintro e w' ⟨rfl, ⟨nd, rfl⟩⟩))
   go_meet
   case rel => exact ⟨_, (decide ((l0_4.length : Int) > 2)), rsd, H', ⟨by first | omega | exact Nat.le_refl _⟩, ⟨by (with_reducible repeat (first | refine blk_drewN ?_ _ | refine blk_drew ?_ | refine blk_alloc ?_ _)); exact BK139.out⟩, ⟨tb HB⟩⟩
  rw [if_pos c17] at H
  have c17b0 := decide_eq_true c17
  have c17b1 : decide (12 < l0_3.length) = true := decide_eq_true (by omega)
  clear c17
  have H' := Aside0.mk H
  clear H
  have hz18 := cs5_ BK139
  go_wp2_with (first | (go_at_call 70; (with_reducible refine (spec_l1In.calls a0_1 0 (l0_0.length : Int) true _ A7.out).mono ?_); rintro e w' ⟨rfl, ⟨nd, rfl⟩⟩))
  go_meet
  case rel => exact ⟨_, (true), rsd, H', ⟨by first | omega | exact Nat.le_refl _⟩, ⟨by (with_reducible repeat (first | refine blk_drewN ?_ _ | refine blk_drew ?_ | refine blk_alloc ?_ _)); exact BK139.out⟩, ⟨tb HB⟩⟩
 case rest =>
  clear HC3
  obtain ⟨kq, x60_2, rfl, HA, HJ2, BK139, HB⟩ := hcut
  cases kq with
  | zero => exact absurd HA.out (by simp [spec_ThreadOk.j0])
  | succ kj2 =>
   have H := HA.out
   clear HA
   simp only [spec_ThreadOk.j0] at H
   cases x60_2
   case true =>
    replace H := ipt H
    obtain rfl := oin H
    go_wp2
    go_ret
    exact ⟨er, tb HB⟩
   replace H := ipf H
   have H' := Aside0.mk H
   clear H
   go_wp2
   go_loopg [5] kj2 (fun kq v5 w' => ∃ (x5_2 : Int), v5 = .int .i64 x5_2 ∧ Aside0 (spec_ThreadOk.l0 kq a1 x5_2 l0_0 a0_1 a0_2 l0_3 l0_4 = some r) ∧ Aside0 (kq ≤ kj2) ∧ Aside0 (w'.heap[gb139]? = some (.cells #[(.slice A0_0 l0_0.length c0_0), .int .i64 a0_1, .bool a0_2, (.slice A0_3 l0_3.length c0_3), (.slice A0_4 l0_4.length c0_4)] 82 (0, 0))) ∧ Aside0 (Below w.heap.size w w'))
   case atStart => exact ⟨(0), rsd, H', ⟨Nat.le_refl _⟩, ⟨by (with_reducible repeat (first | refine blk_drewN ?_ _ | refine blk_drew ?_ | refine blk_alloc ?_ _)); exact BK139.out⟩, ⟨tb HB⟩⟩
   case round =>
    clear H'
    obtain ⟨x5_2, rfl, HA, HK2, BK139, HB⟩ := hrel
    cases gk with
    | zero => exact absurd HA.out (by simp [spec_ThreadOk.l0])
    | succ k2 =>
     have H := HA.out
     clear HA
     simp only [spec_ThreadOk.l0] at H
     revert H; refine icd (fun c22b0 H => ?pos) fun c22b0 H => ?_
     case pos =>
      obtain ⟨c23b0, H⟩ := itd H
      obtain ⟨t142, A24, H⟩ := bn H
      try dsimp only at H
      cases t142
      case false =>
       replace H := ipf H
       obtain rfl := oin H
       have hz28 := cs5_ BK139
       have p141 : 0 ≤ (x5_2 : Int) := od
       have q141 : x5_2 < (l0_0.length : Int) := od
       obtain ⟨ad141, e141, hx141⟩ := att132 HR0_0.out x5_2 p141 q141
       cases e141
       replace hx141 := ox3 HB hx141
       replace p141 := eq_true p141
       replace q141 := eq_true q141
       go_wp2_with (first | ((with_reducible refine gf 118 rfl ?_); refine gL 73 Tryz.func118 #[.agg #[.int .i64 ((rd_T132 l0_0 x5_2).f0), .int .i64 ((rd_T132 l0_0 x5_2).f1), .int .i64 ((rd_T132 l0_0 x5_2).f2)]] ?_; (with_reducible refine (spec_OpOk.calls k2 ((rd_T132 l0_0 x5_2).f0) ((rd_T132 l0_0 x5_2).f1) ((rd_T132 l0_0 x5_2).f2) false _ A24.out).mono ?_); rintro e w29 ⟨rfl, hb⟩; refine ⟨_, rfl, ?_⟩; replace BK139 := bb BK139 hb; replace HB := bs HB hb; (try clear hb)))
       go_ret
       exact ⟨er, tb HB⟩
      replace H := ipt H
      have H' := Aside0.mk H
      clear H
      have hz26 := cs5_ BK139
      have p141 : 0 ≤ (x5_2 : Int) := od
      have q141 : x5_2 < (l0_0.length : Int) := od
      obtain ⟨ad141, e141, hx141_0, hx141_1, hx141_2⟩ := at_T132 HR0_0.out x5_2 p141 q141
      cases e141
      replace hx141_0 := ox HB hx141_0
      replace hx141_1 := ox HB hx141_1
      replace hx141_2 := ox HB hx141_2
      replace p141 := eq_true p141
      replace q141 := eq_true q141
      go_wp2_with (first | ((with_reducible refine gf 118 rfl ?_); refine gL 73 Tryz.func118 #[.agg #[.int .i64 ((rd_T132 l0_0 x5_2).f0), .int .i64 ((rd_T132 l0_0 x5_2).f1), .int .i64 ((rd_T132 l0_0 x5_2).f2)]] ?_; (with_reducible refine (spec_OpOk.calls k2 ((rd_T132 l0_0 x5_2).f0) ((rd_T132 l0_0 x5_2).f1) ((rd_T132 l0_0 x5_2).f2) true _ A24.out).mono ?_); rintro e w27 ⟨rfl, hb⟩; refine ⟨_, rfl, ?_⟩; replace BK139 := bb BK139 hb; replace HB := bs HB hb; (try clear hb)))
      go_roundg k2
      case measure => have := HJ2.out; have := HK2.out; omega
      case rel => exact ⟨(wrap64 (x5_2 + 1)), rsd, H', ⟨by have := HJ2.out; have := HK2.out; omega⟩, ⟨by (with_reducible repeat (first | refine blk_drewN ?_ _ | refine blk_drew ?_ | refine blk_alloc ?_ _)); exact BK139.out⟩, ⟨tb HB⟩⟩
     have H' := Aside0.mk H
     clear H
     have hz30 := cs5_ BK139
     go_wp2
     go_loopg [6] k2 (fun kq v6 w' => ∃ (x6_3 : Int), v6 = .int .i64 x6_3 ∧ Aside0 (spec_ThreadOk.l1 kq a1 x6_3 l0_0 a0_1 a0_2 l0_3 l0_4 = some r) ∧ Aside0 (kq ≤ k2) ∧ Aside0 (w'.heap[gb139]? = some (.cells #[(.slice A0_0 l0_0.length c0_0), .int .i64 a0_1, .bool a0_2, (.slice A0_3 l0_3.length c0_3), (.slice A0_4 l0_4.length c0_4)] 82 (0, 0))) ∧ Aside0 (Below w.heap.size w w'))
     case atStart => exact ⟨(0), rsd, H', ⟨Nat.le_refl _⟩, ⟨by (with_reducible repeat (first | refine blk_drewN ?_ _ | refine blk_drew ?_ | refine blk_alloc ?_ _)); exact BK139.out⟩, ⟨tb HB⟩⟩
     case round =>
      clear H'
      try clear hx141_0
      try clear hx141_1
      try clear hx141_2
      obtain ⟨x6_3, rfl, HA, HK3, BK139, HB⟩ := hrel
      cases gk with
      | zero => exact absurd HA.out (by simp [spec_ThreadOk.l1])
      | succ k3 =>
       have H := HA.out
       clear HA
       simp only [spec_ThreadOk.l1] at H
       revert H; refine icd (fun c31b0 H => ?pos) fun c31b0 H => ?_
       case pos =>
        obtain ⟨c32b0, H⟩ := itd H
        obtain ⟨t144, A33, H⟩ := bn H
        try dsimp only at H
        cases t144
        case false =>
         replace H := ipf H
         obtain rfl := oin H
         have hz39 := cs5_ BK139
         have p143 : 0 ≤ (x6_3 : Int) := od
         have q143 : x6_3 < (l0_3.length : Int) := od
         obtain ⟨ad143, e143, hx143⟩ := att145 HR0_3.out x6_3 p143 q143
         cases e143
         replace hx143 := ox2 HB hx143
         replace p143 := eq_true p143
         replace q143 := eq_true q143
         go_wp2_with (first | ((with_reducible refine gf 70 rfl ?_); refine gL 88 Tryz.func70 #[.int .i64 ((rd_T145 l0_3 x6_3).f0), .int .i64 0, .int .i64 19] ?_; (with_reducible refine (spec_l1In.calls ((rd_T145 l0_3 x6_3).f0) 0 19 false _ A33.out).mono ?_); rintro e w' ⟨rfl, ⟨nd, rfl⟩⟩; refine ⟨_, rfl, ?_⟩))
         go_ret
         exact ⟨er, tb HB⟩
        replace H := ipt H
        obtain ⟨t146, A35, H⟩ := bn H
        try dsimp only at H
        cases t146
        case false =>
         replace H := ipf H
         obtain rfl := oin H
         have hz38 := cs5_ BK139
         have p143 : 0 ≤ (x6_3 : Int) := od
         have q143 : x6_3 < (l0_3.length : Int) := od
         obtain ⟨ad143, e143, hx143_0, hx143_1⟩ := at_T145 HR0_3.out x6_3 p143 q143
         cases e143
         replace hx143_0 := ox HB hx143_0
         replace hx143_1 := ox HB hx143_1
         replace p143 := eq_true p143
         replace q143 := eq_true q143
         go_wp2_with (first | ((with_reducible refine gf 70 rfl ?_); refine gL 88 Tryz.func70 #[.int .i64 ((rd_T145 l0_3 x6_3).f0), .int .i64 0, .int .i64 19] ?_; (with_reducible refine (spec_l1In.calls ((rd_T145 l0_3 x6_3).f0) 0 19 true _ A33.out).mono ?_); rintro e w' ⟨rfl, ⟨nd, rfl⟩⟩; refine ⟨_, rfl, ?_⟩; have p145 : 0 ≤ (x6_3 : Int) := od; have q145 : x6_3 < (l0_3.length : Int) := od; obtain ⟨ad145, e145, hx145_0, hx145_1⟩ := at_T145 HR0_3.out x6_3 p145 q145; obtain rfl : ad143 = ad145 := (by injection e145); replace hx145_0 := ox HB hx145_0; replace hx145_1 := ox HB hx145_1; replace p145 := eq_true p145; replace q145 := eq_true q145) | (go_at_call 70; (with_reducible refine (spec_l1In.calls ((rd_T145 l0_3 x6_3).f1) 0 1000 false _ A35.out).mono ?_); rintro e w' ⟨rfl, ⟨nd, rfl⟩⟩))
         go_ret
         exact ⟨er, tb HB⟩
        replace H := ipt H
        have H' := Aside0.mk H
        clear H
        have hz37 := cs5_ BK139
        have p143 : 0 ≤ (x6_3 : Int) := od
        have q143 : x6_3 < (l0_3.length : Int) := od
        obtain ⟨ad143, e143, hx143_0, hx143_1⟩ := at_T145 HR0_3.out x6_3 p143 q143
        cases e143
        replace hx143_0 := ox HB hx143_0
        replace hx143_1 := ox HB hx143_1
        replace p143 := eq_true p143
        replace q143 := eq_true q143
        go_wp2_with (first | ((with_reducible refine gf 70 rfl ?_); refine gL 88 Tryz.func70 #[.int .i64 ((rd_T145 l0_3 x6_3).f0), .int .i64 0, .int .i64 19] ?_; (with_reducible refine (spec_l1In.calls ((rd_T145 l0_3 x6_3).f0) 0 19 true _ A33.out).mono ?_); rintro e w' ⟨rfl, ⟨nd, rfl⟩⟩; refine ⟨_, rfl, ?_⟩; have p145 : 0 ≤ (x6_3 : Int) := od; have q145 : x6_3 < (l0_3.length : Int) := od; obtain ⟨ad145, e145, hx145_0, hx145_1⟩ := at_T145 HR0_3.out x6_3 p145 q145; obtain rfl : ad143 = ad145 := (by injection e145); replace hx145_0 := ox HB hx145_0; replace hx145_1 := ox HB hx145_1; replace p145 := eq_true p145; replace q145 := eq_true q145) | (go_at_call 70; (with_reducible refine (spec_l1In.calls ((rd_T145 l0_3 x6_3).f1) 0 1000 true _ A35.out).mono ?_); rintro e w' ⟨rfl, ⟨nd, rfl⟩⟩))
        go_roundg k3
        case measure => have := HJ2.out; have := HK2.out; have := HK3.out; omega
        case rel => exact ⟨(wrap64 (x6_3 + 1)), rsd, H', ⟨by have := HJ2.out; have := HK2.out; have := HK3.out; omega⟩, ⟨by (with_reducible repeat (first | refine blk_drewN ?_ _ | refine blk_drew ?_ | refine blk_alloc ?_ _)); exact BK139.out⟩, ⟨tb HB⟩⟩
       have H' := Aside0.mk H
       clear H
       have hz40 := cs5_ BK139
       go_wp2
       go_loopg [7] k3 (fun kq v7 w' => ∃ (x7_4 : Int), v7 = .int .i64 x7_4 ∧ Aside0 (spec_ThreadOk.l2 kq a1 x7_4 l0_0 a0_1 a0_2 l0_3 l0_4 = some r) ∧ Aside0 (kq ≤ k3) ∧ Aside0 (w'.heap[gb139]? = some (.cells #[(.slice A0_0 l0_0.length c0_0), .int .i64 a0_1, .bool a0_2, (.slice A0_3 l0_3.length c0_3), (.slice A0_4 l0_4.length c0_4)] 82 (0, 0))) ∧ Aside0 (Below w.heap.size w w'))
       case atStart => exact ⟨(0), rsd, H', ⟨Nat.le_refl _⟩, ⟨by (with_reducible repeat (first | refine blk_drewN ?_ _ | refine blk_drew ?_ | refine blk_alloc ?_ _)); exact BK139.out⟩, ⟨tb HB⟩⟩
       case round =>
        clear H'
        try clear hx141_0
        try clear hx141_1
        try clear hx141_2
        try clear hx143_0
        try clear hx143_1
        try clear hx145_0
        try clear hx145_1
        obtain ⟨x7_4, rfl, HA, HK4, BK139, HB⟩ := hrel
        cases gk with
        | zero => exact absurd HA.out (by simp [spec_ThreadOk.l2])
        | succ k4 =>
         have H := HA.out
         clear HA
         simp only [spec_ThreadOk.l2] at H
         revert H; refine icd (fun c41b0 H => ?_) fun c41b0 H => ?neg
         case neg =>
          obtain rfl := oin H
          have hz75 := cs5_ BK139
          go_wp2
          go_ret
          exact ⟨er, tb HB⟩
         obtain ⟨c42b0, H⟩ := itd H
         revert H; refine icd (fun c43b0 H => ?pos) fun c43b0 H => ?_
         case pos =>
          obtain rfl := oin H
          have hz44 := cs5_ BK139
          have p147 : 0 ≤ (x7_4 : Int) := od
          have q147 : x7_4 < (l0_4.length : Int) := od
          obtain ⟨ad147, e147, hx147_0, hx147_1, hx147_2, hx147_3⟩ := at_T42 HR0_4.out x7_4 p147 q147
          cases e147
          replace hx147_0 := ox HB hx147_0
          replace hx147_1 := ox HB hx147_1
          replace hx147_2 := ox HB hx147_2
          replace hx147_3 := ox HB hx147_3
          replace p147 := eq_true p147
          replace q147 := eq_true q147
          go_wp2_with (first | ((with_reducible refine gq 8 rfl ?_); (try (refine gate_guard (by rfl) ?_; dsimp only)); refine bx1 HB BK139 (N := 8) (cs := #[.int .i64 0, .int .i64 0, .int .i64 0, .int .i64 0]) (t := 42) ?_; clear HB BK139; intro gb148 w45 BK148 GE148 HB NB139_148 NB148_139 BK139; have hnb46 := NB148_139.out; have hnc46 := NB139_148.out; have hz47 := cs4_ BK148))
          go_ret
          exact ⟨er, tb HB⟩
         revert H; refine icd (fun c48b0 H => ?pos) fun c48b0 H => ?_
         case pos =>
          obtain rfl := oin H
          have hz49 := cs5_ BK139
          have p147 : 0 ≤ (x7_4 : Int) := od
          have q147 : x7_4 < (l0_4.length : Int) := od
          obtain ⟨ad147, e147, hx147_0, hx147_1, hx147_2, hx147_3⟩ := at_T42 HR0_4.out x7_4 p147 q147
          cases e147
          replace hx147_0 := ox HB hx147_0
          replace hx147_1 := ox HB hx147_1
          replace hx147_2 := ox HB hx147_2
          replace hx147_3 := ox HB hx147_3
          replace p147 := eq_true p147
          replace q147 := eq_true q147
          go_wp2_with (first | ((with_reducible refine gq 8 rfl ?_); (try (refine gate_guard (by rfl) ?_; dsimp only)); refine bx1 HB BK139 (N := 8) (cs := #[.int .i64 0, .int .i64 0, .int .i64 0, .int .i64 0]) (t := 42) ?_; clear HB BK139; intro gb148 w50 BK148 GE148 HB NB139_148 NB148_139 BK139; have hnb51 := NB148_139.out; have hnc51 := NB139_148.out; have hz52 := cs4_ BK148))
          go_ret
          exact ⟨er, tb HB⟩
         obtain ⟨t149, A53, H⟩ := bn H
         try dsimp only at H
         cases t149
         case false =>
          replace H := ipf H
          obtain rfl := oin H
          have hz71 := cs5_ BK139
          have p147 : 0 ≤ (x7_4 : Int) := od
          have q147 : x7_4 < (l0_4.length : Int) := od
          obtain ⟨ad147, e147, hx147⟩ := att42 HR0_4.out x7_4 p147 q147
          cases e147
          replace hx147 := ox4 HB hx147
          replace p147 := eq_true p147
          replace q147 := eq_true q147
          go_wp2_with (first | ((with_reducible refine gq 8 rfl ?_); (try (refine gate_guard (by rfl) ?_; dsimp only)); refine bx1 HB BK139 (N := 8) (cs := #[.int .i64 0, .int .i64 0, .int .i64 0, .int .i64 0]) (t := 42) ?_; clear HB BK139; intro gb148 w72 BK148 GE148 HB NB139_148 NB148_139 BK139; have hnb73 := NB148_139.out; have hnc73 := NB139_148.out; have hz74 := cs4_ BK148) | (go_at_call 70; (with_reducible refine (spec_l1In.calls ((rd_T42 l0_4 x7_4).f1) 1 1000000 false _ A53.out).mono ?_); rintro e w' ⟨rfl, ⟨nd, rfl⟩⟩))
          go_ret
          exact ⟨er, tb HB⟩
         replace H := ipt H
         obtain ⟨t150, A55, H⟩ := bn H
         try dsimp only at H
         cases t150
         case false =>
          replace H := ipf H
          obtain rfl := oin H
          have hz67 := cs5_ BK139
          have p147 : 0 ≤ (x7_4 : Int) := od
          have q147 : x7_4 < (l0_4.length : Int) := od
          obtain ⟨ad147, e147, hx147_0, hx147_1, hx147_2, hx147_3⟩ := at_T42 HR0_4.out x7_4 p147 q147
          cases e147
          replace hx147_0 := ox HB hx147_0
          replace hx147_1 := ox HB hx147_1
          replace hx147_2 := ox HB hx147_2
          replace hx147_3 := ox HB hx147_3
          replace p147 := eq_true p147
          replace q147 := eq_true q147
          go_wp2_with (first | ((with_reducible refine gq 8 rfl ?_); (try (refine gate_guard (by rfl) ?_; dsimp only)); refine bx1 HB BK139 (N := 8) (cs := #[.int .i64 0, .int .i64 0, .int .i64 0, .int .i64 0]) (t := 42) ?_; clear HB BK139; intro gb148 w68 BK148 GE148 HB NB139_148 NB148_139 BK139; have hnb69 := NB148_139.out; have hnc69 := NB139_148.out; have hz70 := cs4_ BK148) | (go_at_call 70; (with_reducible refine (spec_l1In.calls ((rd_T42 l0_4 x7_4).f1) 1 1000000 true _ A53.out).mono ?_); rintro e w' ⟨rfl, ⟨nd, rfl⟩⟩) | (go_at_call 70; (with_reducible refine (spec_l1In.calls ((rd_T42 l0_4 x7_4).f2) 0 20 false _ A55.out).mono ?_); rintro e w' ⟨rfl, ⟨nd, rfl⟩⟩))
          go_ret
          exact ⟨er, tb HB⟩
         replace H := ipt H
         obtain ⟨t151, A57, H⟩ := bn H
         try dsimp only at H
         cases t151
         case false =>
          replace H := ipf H
          obtain rfl := oin H
          have hz63 := cs5_ BK139
          have p147 : 0 ≤ (x7_4 : Int) := od
          have q147 : x7_4 < (l0_4.length : Int) := od
          obtain ⟨ad147, e147, hx147_0, hx147_1, hx147_2, hx147_3⟩ := at_T42 HR0_4.out x7_4 p147 q147
          cases e147
          replace hx147_0 := ox HB hx147_0
          replace hx147_1 := ox HB hx147_1
          replace hx147_2 := ox HB hx147_2
          replace hx147_3 := ox HB hx147_3
          replace p147 := eq_true p147
          replace q147 := eq_true q147
          go_wp2_with (first | ((with_reducible refine gq 8 rfl ?_); (try (refine gate_guard (by rfl) ?_; dsimp only)); refine bx1 HB BK139 (N := 8) (cs := #[.int .i64 0, .int .i64 0, .int .i64 0, .int .i64 0]) (t := 42) ?_; clear HB BK139; intro gb148 w64 BK148 GE148 HB NB139_148 NB148_139 BK139; have hnb65 := NB148_139.out; have hnc65 := NB139_148.out; have hz66 := cs4_ BK148) | (go_at_call 70; (with_reducible refine (spec_l1In.calls ((rd_T42 l0_4 x7_4).f1) 1 1000000 true _ A53.out).mono ?_); rintro e w' ⟨rfl, ⟨nd, rfl⟩⟩) | (go_at_call 70; (with_reducible refine (spec_l1In.calls ((rd_T42 l0_4 x7_4).f2) 0 20 true _ A55.out).mono ?_); rintro e w' ⟨rfl, ⟨nd, rfl⟩⟩) | (go_at_call 70; (with_reducible refine (spec_l1In.calls ((rd_T42 l0_4 x7_4).f3) 0 20 false _ A57.out).mono ?_); rintro e w' ⟨rfl, ⟨nd, rfl⟩⟩))
          go_ret
          exact ⟨er, tb HB⟩
         replace H := ipt H
         have H' := Aside0.mk H
         clear H
         have hz59 := cs5_ BK139
         have p147 : 0 ≤ (x7_4 : Int) := od
         have q147 : x7_4 < (l0_4.length : Int) := od
         obtain ⟨ad147, e147, hx147_0, hx147_1, hx147_2, hx147_3⟩ := at_T42 HR0_4.out x7_4 p147 q147
         cases e147
         replace hx147_0 := ox HB hx147_0
         replace hx147_1 := ox HB hx147_1
         replace hx147_2 := ox HB hx147_2
         replace hx147_3 := ox HB hx147_3
         replace p147 := eq_true p147
         replace q147 := eq_true q147
         go_wp2_with (first | ((with_reducible refine gq 8 rfl ?_); (try (refine gate_guard (by rfl) ?_; dsimp only)); refine bx1 HB BK139 (N := 8) (cs := #[.int .i64 0, .int .i64 0, .int .i64 0, .int .i64 0]) (t := 42) ?_; clear HB BK139; intro gb148 w60 BK148 GE148 HB NB139_148 NB148_139 BK139; have hnb61 := NB148_139.out; have hnc61 := NB139_148.out; have hz62 := cs4_ BK148) | (go_at_call 70; (with_reducible refine (spec_l1In.calls ((rd_T42 l0_4 x7_4).f1) 1 1000000 true _ A53.out).mono ?_); rintro e w' ⟨rfl, ⟨nd, rfl⟩⟩) | (go_at_call 70; (with_reducible refine (spec_l1In.calls ((rd_T42 l0_4 x7_4).f2) 0 20 true _ A55.out).mono ?_); rintro e w' ⟨rfl, ⟨nd, rfl⟩⟩) | (go_at_call 70; (with_reducible refine (spec_l1In.calls ((rd_T42 l0_4 x7_4).f3) 0 20 true _ A57.out).mono ?_); rintro e w' ⟨rfl, ⟨nd, rfl⟩⟩))
         go_roundg k4
         case measure => have := HJ2.out; have := HK2.out; have := HK3.out; have := HK4.out; omega
         case rel => exact ⟨(wrap64 (x7_4 + 1)), rsd, H', ⟨by have := HJ2.out; have := HK2.out; have := HK3.out; have := HK4.out; omega⟩, ⟨bf BK139⟩, ⟨tb HB⟩⟩
def spec_l9Call.f (k : Nat) (l0_0 : List (S39)) (l0_1 : List (S52)) (l0_2 : List (S82)) (a0_3 : Int) (l0_4 : List (S134)) (l0_5 : List Int) (l0_6 : List Int) (a0_7 : Int) (a1_0 : Int) (a1_1 : Int) (a1_2 : Int) (a1_3 : Int) (a1_4 : Int) (a1_5 : Int) (a1_6 : Int) (a1_7 : Int) (l1_8 : List Int) : Option (Bool) := (spec_l1In.f a1_0 0 (wrap64 ((l0_2.length : Int) - 1))).bind fun t194 => (if t194 = true then ((spec_OpOk.f k a1_1 a1_2 a1_3).bind fun t195 => (if t195 = true then ((spec_l1In.f a1_4 0 a0_3).bind fun t196 => (if t196 = true then (if a1_5 = (-1) then (if a1_6 = (-1) then (some true) else ((spec_l1In.f a1_6 a1_4 a0_3).bind fun t197 => (some t197))) else ((spec_l1In.f a1_5 a1_4 a0_3).bind fun t198 => (if t198 = true then (if a1_6 = (-1) then (some true) else ((spec_l1In.f a1_6 a1_4 a0_3).bind fun t199 => (some t199))) else (some false)))) else (some false))) else (some false))) else (some false))
set_option maxHeartbeats 8000000 in
set_option maxRecDepth 100000 in
theorem spec_l9Call.calls (k : Nat) (A0_0 : Option Addr) (c0_0 : Nat) (l0_0 : List (S39)) (A0_1 : Option Addr) (c0_1 : Nat) (l0_1 : List (S52)) (A0_2 : Option Addr) (c0_2 : Nat) (l0_2 : List (S82)) (a0_3 : Int) (A0_4 : Option Addr) (c0_4 : Nat) (l0_4 : List (S134)) (A0_5 : Option Addr) (c0_5 : Nat) (l0_5 : List Int) (A0_6 : Option Addr) (c0_6 : Nat) (l0_6 : List Int) (a0_7 : Int) (a1_0 : Int) (a1_1 : Int) (a1_2 : Int) (a1_3 : Int) (a1_4 : Int) (a1_5 : Int) (a1_6 : Int) (a1_7 : Int) (A1_8 : Option Addr) (c1_8 : Nat) (l1_8 : List Int) (r : Bool) (w : World) (hr0_0 : Kd.C k39 w A0_0 l0_0.length l0_0) (hc0_0 : l0_0.length ≤ c0_0) (hr0_1 : Kd.C k52 w A0_1 l0_1.length l0_1) (hc0_1 : l0_1.length ≤ c0_1) (hr0_2 : Kd.C k82 w A0_2 l0_2.length l0_2) (hc0_2 : l0_2.length ≤ c0_2) (hr0_4 : Kd.C k134 w A0_4 l0_4.length l0_4) (hc0_4 : l0_4.length ≤ c0_4) (hr0_5 : Kd.C (Kd.int .i64) w A0_5 l0_5.length l0_5) (hc0_5 : l0_5.length ≤ c0_5) (hr0_6 : Kd.C (Kd.int .i64) w A0_6 l0_6.length l0_6) (hc0_6 : l0_6.length ≤ c0_6) (hr1_8 : Kd.C (Kd.int .i64) w A1_8 l1_8.length l1_8) (hc1_8 : l1_8.length ≤ c1_8) (h : spec_l9Call.f k l0_0 l0_1 l0_2 a0_3 l0_4 l0_5 l0_6 a0_7 a1_0 a1_1 a1_2 a1_3 a1_4 a1_5 a1_6 a1_7 l1_8 = some r) :
  Calls Tryz.prog 141 #[.agg #[.slice A0_0 l0_0.length c0_0, .slice A0_1 l0_1.length c0_1, .slice A0_2 l0_2.length c0_2, .int .i64 a0_3, .slice A0_4 l0_4.length c0_4, .slice A0_5 l0_5.length c0_5, .slice A0_6 l0_6.length c0_6, .int .i64 a0_7], .agg #[.int .i64 a1_0, .int .i64 a1_1, .int .i64 a1_2, .int .i64 a1_3, .int .i64 a1_4, .int .i64 a1_5, .int .i64 a1_6, .int .i64 a1_7, .slice A1_8 l1_8.length c1_8]] w fun e w' => e = .returned (.bool r) ∧ Below w.heap.size w w' := by
 have hu75 := Tryz.underlying75
 have hu134 := Tryz.underlying134
 have hu132 := Tryz.underlying132
 have HR0_0 := Aside0.mk hr0_0
 have HC0_0 := Aside0.mk hc0_0
 clear hr0_0 hc0_0
 have HR0_1 := Aside0.mk hr0_1
 have HC0_1 := Aside0.mk hc0_1
 clear hr0_1 hc0_1
 have HR0_2 := Aside0.mk hr0_2
 have HC0_2 := Aside0.mk hc0_2
 clear hr0_2 hc0_2
 have HR0_4 := Aside0.mk hr0_4
 have HC0_4 := Aside0.mk hc0_4
 clear hr0_4 hc0_4
 have HR0_5 := Aside0.mk hr0_5
 have HC0_5 := Aside0.mk hc0_5
 clear hr0_5 hc0_5
 have HR0_6 := Aside0.mk hr0_6
 have HC0_6 := Aside0.mk hc0_6
 clear hr0_6 hc0_6
 have HR1_8 := Aside0.mk hr1_8
 have HC1_8 := Aside0.mk hc1_8
 clear hr1_8 hc1_8
 have HB := Aside0.mk (Below.refl w.heap.size w)
 have H := h
 clear h
 unfold spec_l9Call.f at H
 obtain ⟨t194, A3, H⟩ := bn H
 try dsimp only at H
 cases t194
 case false =>
  replace H := ipf H
  obtain rfl := oin H
  go_enter Tryz.func141, Tryz.ntmps141
  go_wp2_with (first | ((with_reducible refine gq 2 rfl ?_); refine bx0 HB (N := 2) (t := 75) ?_; clear HB; intro gb192 w70 BK192 GE192 HB) | ((with_reducible refine gq 3 rfl ?_); refine bx1 HB BK192 (N := 3) (t := 134) ?_; clear HB BK192; intro gb193 w71 BK193 GE193 HB NB192_193 NB193_192 BK192; have hnb72 := NB193_192.out; have hnc72 := NB192_193.out; have hz73 := cs9_ BK193; have hz74 := cs8_ BK192) | ((with_reducible refine gf 70 rfl ?_); refine gL 11 Tryz.func70 #[.int .i64 a1_0, .int .i64 0, .int .i64 (wrap64 ((l0_2.length : Int) - 1))] ?_; (with_reducible refine (spec_l1In.calls a1_0 0 (wrap64 ((l0_2.length : Int) - 1)) false _ A3.out).mono ?_); rintro e w' ⟨rfl, ⟨nd, rfl⟩⟩; refine ⟨_, rfl, ?_⟩))
  go_ret
  exact ⟨er, tb HB⟩
 replace H := ipt H
 obtain ⟨t195, A5, H⟩ := bn H
 try dsimp only at H
 cases t195
 case false =>
  replace H := ipf H
  obtain rfl := oin H
  go_enter Tryz.func141, Tryz.ntmps141
  go_wp2_with (first | ((with_reducible refine gq 2 rfl ?_); refine bx0 HB (N := 2) (t := 75) ?_; clear HB; intro gb192 w64 BK192 GE192 HB) | ((with_reducible refine gq 3 rfl ?_); refine bx1 HB BK192 (N := 3) (t := 134) ?_; clear HB BK192; intro gb193 w65 BK193 GE193 HB NB192_193 NB193_192 BK192; have hnb66 := NB193_192.out; have hnc66 := NB192_193.out; have hz67 := cs9_ BK193; have hz68 := cs8_ BK192) | ((with_reducible refine gf 70 rfl ?_); refine gL 11 Tryz.func70 #[.int .i64 a1_0, .int .i64 0, .int .i64 (wrap64 ((l0_2.length : Int) - 1))] ?_; (with_reducible refine (spec_l1In.calls a1_0 0 (wrap64 ((l0_2.length : Int) - 1)) true _ A3.out).mono ?_); rintro e w' ⟨rfl, ⟨nd, rfl⟩⟩; refine ⟨_, rfl, ?_⟩) | (go_at_call 118; (with_reducible refine (spec_OpOk.calls k a1_1 a1_2 a1_3 false _ A5.out).mono ?_); rintro e w69 ⟨rfl, hb⟩; replace BK192 := bb BK192 hb; replace BK193 := bb BK193 hb; replace HB := bs HB hb; (try clear hb)))
  go_ret
  exact ⟨er, tb HB⟩
 replace H := ipt H
 obtain ⟨t196, A7, H⟩ := bn H
 try dsimp only at H
 cases t196
 case false =>
  replace H := ipf H
  obtain rfl := oin H
  go_enter Tryz.func141, Tryz.ntmps141
  go_wp2_with (first | ((with_reducible refine gq 2 rfl ?_); refine bx0 HB (N := 2) (t := 75) ?_; clear HB; intro gb192 w56 BK192 GE192 HB) | ((with_reducible refine gq 3 rfl ?_); refine bx1 HB BK192 (N := 3) (t := 134) ?_; clear HB BK192; intro gb193 w57 BK193 GE193 HB NB192_193 NB193_192 BK192; have hnb58 := NB193_192.out; have hnc58 := NB192_193.out; have hz59 := cs9_ BK193; have hz60 := cs8_ BK192) | ((with_reducible refine gf 70 rfl ?_); refine gL 11 Tryz.func70 #[.int .i64 a1_0, .int .i64 0, .int .i64 (wrap64 ((l0_2.length : Int) - 1))] ?_; (with_reducible refine (spec_l1In.calls a1_0 0 (wrap64 ((l0_2.length : Int) - 1)) true _ A3.out).mono ?_); rintro e w' ⟨rfl, ⟨nd, rfl⟩⟩; refine ⟨_, rfl, ?_⟩) | (go_at_call 118; (with_reducible refine (spec_OpOk.calls k a1_1 a1_2 a1_3 true _ A5.out).mono ?_); rintro e w61 ⟨rfl, hb⟩; replace BK192 := bb BK192 hb; replace BK193 := bb BK193 hb; replace HB := bs HB hb; (try clear hb); have hz62 := cs9_ BK193; have hz63 := cs8_ BK192) | (go_at_call 70; (with_reducible refine (spec_l1In.calls a1_4 0 a0_3 false _ A7.out).mono ?_); rintro e w' ⟨rfl, ⟨nd, rfl⟩⟩))
  go_ret
  exact ⟨er, tb HB⟩
 replace H := ipt H
 by_cases c9 : a1_5 = (-1)
 case pos =>
  rw [if_pos c9] at H
  have c9b0 : (a1_5 == (-1)) = true := beq_iff_eq.mpr c9
  have c9b1 : (a1_5 != (-1)) = false := bne_eq_false_iff_eq.mpr c9
  clear c9
  by_cases c10 : a1_6 = (-1)
  case pos =>
   rw [if_pos c10] at H
   have c10b0 : (a1_6 == (-1)) = true := beq_iff_eq.mpr c10
   have c10b1 : (a1_6 != (-1)) = false := bne_eq_false_iff_eq.mpr c10
   clear c10
   obtain rfl := oin H
   go_enter Tryz.func141, Tryz.ntmps141
   go_wp2_with (first | ((with_reducible refine gq 2 rfl ?_); refine bx0 HB (N := 2) (t := 75) ?_; clear HB; intro gb192 w11 BK192 GE192 HB) | ((with_reducible refine gq 3 rfl ?_); refine bx1 HB BK192 (N := 3) (t := 134) ?_; clear HB BK192; intro gb193 w12 BK193 GE193 HB NB192_193 NB193_192 BK192; have hnb13 := NB193_192.out; have hnc13 := NB192_193.out; have hz14 := cs9_ BK193; have hz15 := cs8_ BK192) | ((with_reducible refine gf 70 rfl ?_); refine gL 11 Tryz.func70 #[.int .i64 a1_0, .int .i64 0, .int .i64 (wrap64 ((l0_2.length : Int) - 1))] ?_; (with_reducible refine (spec_l1In.calls a1_0 0 (wrap64 ((l0_2.length : Int) - 1)) true _ A3.out).mono ?_); rintro e w' ⟨rfl, ⟨nd, rfl⟩⟩; refine ⟨_, rfl, ?_⟩) | (go_at_call 118; (with_reducible refine (spec_OpOk.calls k a1_1 a1_2 a1_3 true _ A5.out).mono ?_); rintro e w16 ⟨rfl, hb⟩; replace BK192 := bb BK192 hb; replace BK193 := bb BK193 hb; replace HB := bs HB hb; (try clear hb); have hz17 := cs9_ BK193; have hz18 := cs8_ BK192) | (go_at_call 70; (with_reducible refine (spec_l1In.calls a1_4 0 a0_3 true _ A7.out).mono ?_); rintro e w' ⟨rfl, ⟨nd, rfl⟩⟩))
   go_ret
   exact ⟨er, tb HB⟩
  rw [if_neg c10] at H
  have c10b0 : (a1_6 == (-1)) = false := beq_eq_false_iff_ne.mpr c10
  have c10b1 : (a1_6 != (-1)) = true := bne_iff_ne.mpr c10
  obtain ⟨t197, A19, H⟩ := bn H
  try dsimp only at H
  obtain rfl := oin H
  go_enter Tryz.func141, Tryz.ntmps141
  go_wp2_with (first | ((with_reducible refine gq 2 rfl ?_); refine bx0 HB (N := 2) (t := 75) ?_; clear HB; intro gb192 w20 BK192 GE192 HB) | ((with_reducible refine gq 3 rfl ?_); refine bx1 HB BK192 (N := 3) (t := 134) ?_; clear HB BK192; intro gb193 w21 BK193 GE193 HB NB192_193 NB193_192 BK192; have hnb22 := NB193_192.out; have hnc22 := NB192_193.out; have hz23 := cs9_ BK193; have hz24 := cs8_ BK192) | ((with_reducible refine gf 70 rfl ?_); refine gL 11 Tryz.func70 #[.int .i64 a1_0, .int .i64 0, .int .i64 (wrap64 ((l0_2.length : Int) - 1))] ?_; (with_reducible refine (spec_l1In.calls a1_0 0 (wrap64 ((l0_2.length : Int) - 1)) true _ A3.out).mono ?_); rintro e w' ⟨rfl, ⟨nd, rfl⟩⟩; refine ⟨_, rfl, ?_⟩) | (go_at_call 118; (with_reducible refine (spec_OpOk.calls k a1_1 a1_2 a1_3 true _ A5.out).mono ?_); rintro e w25 ⟨rfl, hb⟩; replace BK192 := bb BK192 hb; replace BK193 := bb BK193 hb; replace HB := bs HB hb; (try clear hb); have hz26 := cs9_ BK193; have hz27 := cs8_ BK192) | (go_at_call 70; (with_reducible refine (spec_l1In.calls a1_4 0 a0_3 true _ A7.out).mono ?_); rintro e w' ⟨rfl, ⟨nd, rfl⟩⟩) | (go_at_call 70; (with_reducible refine (spec_l1In.calls a1_6 a1_4 a0_3 t197 _ A19.out).mono ?_); rintro e w' ⟨rfl, ⟨nd, rfl⟩⟩))
  go_ret
  exact ⟨er, tb HB⟩
 rw [if_neg c9] at H
 have c9b0 : (a1_5 == (-1)) = false := beq_eq_false_iff_ne.mpr c9
 have c9b1 : (a1_5 != (-1)) = true := bne_iff_ne.mpr c9
 obtain ⟨t198, A28, H⟩ := bn H
 try dsimp only at H
 cases t198
 case false =>
  replace H := ipf H
  obtain rfl := oin H
  go_enter Tryz.func141, Tryz.ntmps141
  go_wp2_with (first | ((with_reducible refine gq 2 rfl ?_); refine bx0 HB (N := 2) (t := 75) ?_; clear HB; intro gb192 w48 BK192 GE192 HB) | ((with_reducible refine gq 3 rfl ?_); refine bx1 HB BK192 (N := 3) (t := 134) ?_; clear HB BK192; intro gb193 w49 BK193 GE193 HB NB192_193 NB193_192 BK192; have hnb50 := NB193_192.out; have hnc50 := NB192_193.out; have hz51 := cs9_ BK193; have hz52 := cs8_ BK192) | ((with_reducible refine gf 70 rfl ?_); refine gL 11 Tryz.func70 #[.int .i64 a1_0, .int .i64 0, .int .i64 (wrap64 ((l0_2.length : Int) - 1))] ?_; (with_reducible refine (spec_l1In.calls a1_0 0 (wrap64 ((l0_2.length : Int) - 1)) true _ A3.out).mono ?_); rintro e w' ⟨rfl, ⟨nd, rfl⟩⟩; refine ⟨_, rfl, ?_⟩) | (go_at_call 118; (with_reducible refine (spec_OpOk.calls k a1_1 a1_2 a1_3 true _ A5.out).mono ?_); rintro e w53 ⟨rfl, hb⟩; replace BK192 := bb BK192 hb; replace BK193 := bb BK193 hb; replace HB := bs HB hb; (try clear hb); have hz54 := cs9_ BK193; have hz55 := cs8_ BK192) | (go_at_call 70; (with_reducible refine (spec_l1In.calls a1_4 0 a0_3 true _ A7.out).mono ?_); rintro e w' ⟨rfl, ⟨nd, rfl⟩⟩) | (go_at_call 70; (with_reducible refine (spec_l1In.calls a1_5 a1_4 a0_3 false _ A28.out).mono ?_); rintro e w' ⟨rfl, ⟨nd, rfl⟩⟩))
  go_ret
  exact ⟨er, tb HB⟩
 replace H := ipt H
 by_cases c30 : a1_6 = (-1)
 case pos =>
  rw [if_pos c30] at H
  have c30b0 : (a1_6 == (-1)) = true := beq_iff_eq.mpr c30
  have c30b1 : (a1_6 != (-1)) = false := bne_eq_false_iff_eq.mpr c30
  clear c30
  obtain rfl := oin H
  go_enter Tryz.func141, Tryz.ntmps141
  go_wp2_with (first | ((with_reducible refine gq 2 rfl ?_); refine bx0 HB (N := 2) (t := 75) ?_; clear HB; intro gb192 w31 BK192 GE192 HB) | ((with_reducible refine gq 3 rfl ?_); refine bx1 HB BK192 (N := 3) (t := 134) ?_; clear HB BK192; intro gb193 w32 BK193 GE193 HB NB192_193 NB193_192 BK192; have hnb33 := NB193_192.out; have hnc33 := NB192_193.out; have hz34 := cs9_ BK193; have hz35 := cs8_ BK192) | ((with_reducible refine gf 70 rfl ?_); refine gL 11 Tryz.func70 #[.int .i64 a1_0, .int .i64 0, .int .i64 (wrap64 ((l0_2.length : Int) - 1))] ?_; (with_reducible refine (spec_l1In.calls a1_0 0 (wrap64 ((l0_2.length : Int) - 1)) true _ A3.out).mono ?_); rintro e w' ⟨rfl, ⟨nd, rfl⟩⟩; refine ⟨_, rfl, ?_⟩) | (go_at_call 118; (with_reducible refine (spec_OpOk.calls k a1_1 a1_2 a1_3 true _ A5.out).mono ?_); rintro e w36 ⟨rfl, hb⟩; replace BK192 := bb BK192 hb; replace BK193 := bb BK193 hb; replace HB := bs HB hb; (try clear hb); have hz37 := cs9_ BK193; have hz38 := cs8_ BK192) | (go_at_call 70; (with_reducible refine (spec_l1In.calls a1_4 0 a0_3 true _ A7.out).mono ?_); rintro e w' ⟨rfl, ⟨nd, rfl⟩⟩) | (go_at_call 70; (with_reducible refine (spec_l1In.calls a1_5 a1_4 a0_3 true _ A28.out).mono ?_); rintro e w' ⟨rfl, ⟨nd, rfl⟩⟩))
  go_ret
  exact ⟨er, tb HB⟩
 rw [if_neg c30] at H
 have c30b0 : (a1_6 == (-1)) = false := beq_eq_false_iff_ne.mpr c30
 have c30b1 : (a1_6 != (-1)) = true := bne_iff_ne.mpr c30
 obtain ⟨t199, A39, H⟩ := bn H
 try dsimp only at H
 obtain rfl := oin H
 go_enter Tryz.func141, Tryz.ntmps141
 go_wp2_with (first | ((with_reducible refine gq 2 rfl ?_); refine bx0 HB (N := 2) (t := 75) ?_; clear HB; intro gb192 w40 BK192 GE192 HB) | ((with_reducible refine gq 3 rfl ?_); refine bx1 HB BK192 (N := 3) (t := 134) ?_; clear HB BK192; intro gb193 w41 BK193 GE193 HB NB192_193 NB193_192 BK192; have hnb42 := NB193_192.out; have hnc42 := NB192_193.out; have hz43 := cs9_ BK193; have hz44 := cs8_ BK192) | ((with_reducible refine gf 70 rfl ?_); refine gL 11 Tryz.func70 #[.int .i64 a1_0, .int .i64 0, .int .i64 (wrap64 ((l0_2.length : Int) - 1))] ?_; (with_reducible refine (spec_l1In.calls a1_0 0 (wrap64 ((l0_2.length : Int) - 1)) true _ A3.out).mono ?_); rintro e w' ⟨rfl, ⟨nd, rfl⟩⟩; refine ⟨_, rfl, ?_⟩) | (go_at_call 118; (with_reducible refine (spec_OpOk.calls k a1_1 a1_2 a1_3 true _ A5.out).mono ?_); rintro e w45 ⟨rfl, hb⟩; replace BK192 := bb BK192 hb; replace BK193 := bb BK193 hb; replace HB := bs HB hb; (try clear hb); have hz46 := cs9_ BK193; have hz47 := cs8_ BK192) | (go_at_call 70; (with_reducible refine (spec_l1In.calls a1_4 0 a0_3 true _ A7.out).mono ?_); rintro e w' ⟨rfl, ⟨nd, rfl⟩⟩) | (go_at_call 70; (with_reducible refine (spec_l1In.calls a1_5 a1_4 a0_3 true _ A28.out).mono ?_); rintro e w' ⟨rfl, ⟨nd, rfl⟩⟩) | (go_at_call 70; (with_reducible refine (spec_l1In.calls a1_6 a1_4 a0_3 t199 _ A39.out).mono ?_); rintro e w' ⟨rfl, ⟨nd, rfl⟩⟩))
 go_ret
 exact ⟨er, tb HB⟩
def impl_ThreadOk_1.f (k : Nat) (a0_0 : Int) (a0_1 : Int) (a0_2 : Int) : Option (Bool) := (impl_OpOk.f k a0_0 a0_1 a0_2).bind fun t456 => (some (!t456))
theorem impl_ThreadOk_1.mono : ∀ a0 a1 a2 k, LeO (impl_ThreadOk_1.f k a0 a1 a2) (impl_ThreadOk_1.f (k + 1) a0 a1 a2) := by
 intro a0 a1 a2 k
 unfold impl_ThreadOk_1.f
 repeat' first
   | (with_reducible exact impl_OpOk.mono _ _ _ _)
   | (with_reducible exact LeO.refl _)
   | (with_reducible exact LeO.none _)
   | (with_reducible refine LeO.ite ?_ ?_)
   | (with_reducible refine LeO.bind ?_ (fun _ => ?_))
   | exact impl_OpOk.mono _ _ _ _
   | exact LeO.none _
   | refine LeO.ite ?_ ?_
   | refine LeO.bind ?_ (fun _ => ?_)
set_option maxHeartbeats 8000000 in
set_option maxRecDepth 100000 in
theorem impl_ThreadOk_1.calls (k : Nat) (a0_0 : Int) (a0_1 : Int) (a0_2 : Int) (r : Bool) (w : World) (h : impl_ThreadOk_1.f k a0_0 a0_1 a0_2 = some r) :
  Calls Tryz.prog 111 #[.agg #[.int .i64 a0_0, .int .i64 a0_1, .int .i64 a0_2]] w fun e w' => e = .returned (.bool r) ∧ Below w.heap.size w w' := by
 have hu132 := Tryz.underlying132
 have HB := Aside0.mk (Below.refl w.heap.size w)
 have H := h
 clear h
 unfold impl_ThreadOk_1.f at H
 obtain ⟨t456, A2, H⟩ := bn H
 try dsimp only at H
 obtain rfl := oin H
 go_enter Tryz.func111, Tryz.ntmps111
 go_wp2_with (first | ((with_reducible refine gq 1 rfl ?_); refine bx0 HB (N := 1) (t := 132) ?_; clear HB; intro gb455 w3 BK455 GE455 HB; have hz4 := cs3_ BK455) | ((with_reducible refine gf 95 rfl ?_); refine gL 4 Tryz.func95 #[.agg #[.int .i64 a0_0, .int .i64 a0_1, .int .i64 a0_2]] ?_; (with_reducible refine (impl_OpOk.calls k a0_0 a0_1 a0_2 t456 _ A2.out).mono ?_); rintro e w5 ⟨rfl, hb⟩; refine ⟨_, rfl, ?_⟩; replace BK455 := bb BK455 hb; replace HB := bs HB hb; (try clear hb)))
 go_ret
 exact ⟨er, tb HB⟩
def impl_MemOk_1.f (k : Nat) (a0_0 : Int) (a0_1 : Int) (l0_2 : List (S37)) (a0_3 : Int) (l0_4 : List Int) : Option (Bool) := (impl_DescOk.f k a0_0 a0_1 l0_2 a0_3 l0_4).bind fun t428 => (some (!t428))
theorem impl_MemOk_1.mono : ∀ a0 a1 a2 a3 a4 k, LeO (impl_MemOk_1.f k a0 a1 a2 a3 a4) (impl_MemOk_1.f (k + 1) a0 a1 a2 a3 a4) := by
 intro a0 a1 a2 a3 a4 k
 unfold impl_MemOk_1.f
 repeat' first
   | (with_reducible exact impl_DescOk.mono _ _ _ _ _ _)
   | (with_reducible exact LeO.refl _)
   | (with_reducible exact LeO.none _)
   | (with_reducible refine LeO.ite ?_ ?_)
   | (with_reducible refine LeO.bind ?_ (fun _ => ?_))
   | exact impl_DescOk.mono _ _ _ _ _ _
   | exact LeO.none _
   | refine LeO.ite ?_ ?_
   | refine LeO.bind ?_ (fun _ => ?_)
set_option maxHeartbeats 8000000 in
set_option maxRecDepth 100000 in
theorem impl_MemOk_1.calls (k : Nat) (a0_0 : Int) (a0_1 : Int) (A0_2 : Option Addr) (c0_2 : Nat) (l0_2 : List (S37)) (a0_3 : Int) (A0_4 : Option Addr) (c0_4 : Nat) (l0_4 : List Int) (r : Bool) (w : World) (hr0_2 : Kd.C k37 w A0_2 l0_2.length l0_2) (hc0_2 : l0_2.length ≤ c0_2) (hr0_4 : Kd.C (Kd.int .i64) w A0_4 l0_4.length l0_4) (hc0_4 : l0_4.length ≤ c0_4) (h : impl_MemOk_1.f k a0_0 a0_1 l0_2 a0_3 l0_4 = some r) :
  Calls Tryz.prog 77 #[.agg #[.int .i64 a0_0, .int .i64 a0_1, .slice A0_2 l0_2.length c0_2, .int .i64 a0_3, .slice A0_4 l0_4.length c0_4]] w fun e w' => e = .returned (.bool r) ∧ Below w.heap.size w w' := by
 have hu52 := Tryz.underlying52
 have HR0_2 := Aside0.mk hr0_2
 have HC0_2 := Aside0.mk hc0_2
 clear hr0_2 hc0_2
 have HR0_4 := Aside0.mk hr0_4
 have HC0_4 := Aside0.mk hc0_4
 clear hr0_4 hc0_4
 have HB := Aside0.mk (Below.refl w.heap.size w)
 have H := h
 clear h
 unfold impl_MemOk_1.f at H
 obtain ⟨t428, A2, H⟩ := bn H
 try dsimp only at H
 obtain rfl := oin H
 go_enter Tryz.func77, Tryz.ntmps77
 go_wp2_with (first | ((with_reducible refine gq 1 rfl ?_); refine bx0 HB (N := 1) (t := 52) ?_; clear HB; intro gb427 w3 BK427 GE427 HB; have hz4 := cs5_ BK427) | ((with_reducible refine gf 78 rfl ?_); refine gL 4 Tryz.func78 #[.agg #[.int .i64 a0_0, .int .i64 a0_1, .slice A0_2 l0_2.length c0_2, .int .i64 a0_3, .slice A0_4 l0_4.length c0_4]] ?_; (with_reducible refine (impl_DescOk.calls k a0_0 a0_1 _ _ l0_2 a0_3 _ _ l0_4 t428 _ (kc HR0_2 HB) HC0_2.out (kc HR0_4 HB) HC0_4.out A2.out).mono ?_); rintro e w5 ⟨rfl, hb⟩; refine ⟨_, rfl, ?_⟩; replace BK427 := bb BK427 hb; replace HB := bs HB hb; (try clear hb)))
 go_ret
 exact ⟨er, tb HB⟩
end Go.Proofs.YtopikhjcbcpiaaaGreat.Q
section
namespace Go.Proofs.YtopikhjcbcpiaaaGreat.Q
open Go.RowKit Go.Proofs.YtopikhjcbcpiaaaGreatW.PrintWords Go.Proofs.YtopikhjcbcpiaaaGreatX
def inB (a b c : Int) : Bool := decide (b ≤ a ∧ a ≤ c)
theorem l1In_eq (a b c : Int) : spec_l1In.f a b c = some (inB a b c) := by
  unfold spec_l1In.f inB
  by_cases h : a ≥ b
  · rw [if_pos h]; simp; omega
  · rw [if_neg h]; simp; omega
theorem from_eq (a b c : Int) : impl_from.f a b c = some (inB a b c) := by
  unfold impl_from.f inB
  by_cases h : a ≥ b
  · rw [if_pos h]; simp; omega
  · rw [if_neg h]; simp; omega
def opOkB (a b c : Int) : Bool :=
  if a = 1 ∨ a = 2 then inB b 0 3 && inB c 1 6 else if a = 3 ∨ a = 4 then inB b 0 3 && decide (c = 0)
  else if a = 5 ∨ a = 10 then decide (b = 0) && inB c 1 6 else if a = 6 then inB b 0 2 && decide (c = 0)
  else if a = 7 ∨ a = 8 ∨ a = 9 then decide (b = 0) && decide (c = 0) else false
theorem kinds10 (a : Int) : a = 1 ∨ a = 2 ∨ a = 3 ∨ a = 4 ∨ a = 5 ∨ a = 6 ∨ a = 7 ∨ a = 8 ∨ a = 9 ∨ a = 10 ∨ (a < 1 ∨ 10 < a) := by omega
theorem ev_spec_OpOk (a b c : Int) : Ev (fun k => spec_OpOk.f k a b c) (opOkB a b c) := by
  refine ⟨3, fun k hk => ?_⟩
  obtain ⟨k, rfl⟩ : ∃ j, k = j + 3 := ⟨k - 3, by omega⟩
  show spec_OpOk.f (k + 3) a b c = _
  simp only [spec_OpOk.f, spec_OpOk.j0, spec_OpOk.j1, spec_l4Key.f, spec_KeyOk.f, spec_l4Val.f, spec_ValOk.f, l1In_eq, Option.bind_some]
  rcases kinds10 a with rfl | rfl | rfl | rfl | rfl | rfl | rfl | rfl | rfl | rfl | h
  case inr.inr.inr.inr.inr.inr.inr.inr.inr.inr =>
    have h1 : inB a 1 10 = false := by unfold inB; simp; omega
    have h2 : ¬ (a = 1 ∨ a = 2) := by omega
    have h3 : ¬ (a = 3 ∨ a = 4) := by omega
    have h4 : ¬ (a = 5 ∨ a = 10) := by omega
    have h5 : ¬ a = 6 := by omega
    have h6 : ¬ (a = 7 ∨ a = 8 ∨ a = 9) := by omega
    simp [opOkB, h1, h2, h3, h4, h5, h6]
  all_goals
    unfold opOkB
    generalize inB b 0 3 = p
    generalize inB c 1 6 = q
    generalize inB b 0 2 = s
    by_cases hc : c = 0 <;> by_cases hb : b = 0 <;> cases p <;> cases q <;> cases s <;> simp [inB, hc, hb]
theorem ev_impl_OpOk (a b c : Int) : Ev (fun k => impl_OpOk.f k a b c) (opOkB a b c) := by
  refine ⟨4, fun k hk => ?_⟩
  obtain ⟨k, rfl⟩ : ∃ j, k = j + 4 := ⟨k - 4, by omega⟩
  show impl_OpOk.f (k + 4) a b c = _
  simp only [impl_OpOk.f, impl_OpOk.j0, impl_OpOk.j1, impl_OpOk.j2, impl_KeyOk.f, impl_ValOk.f, impl_isClass.f, from_eq, Option.bind_some]
  rcases kinds10 a with rfl | rfl | rfl | rfl | rfl | rfl | rfl | rfl | rfl | rfl | h
  case inr.inr.inr.inr.inr.inr.inr.inr.inr.inr =>
    have g1 : ¬ a = 1 := by omega
    have g2 : ¬ a = 2 := by omega
    have g3 : ¬ a = 3 := by omega
    have g4 : ¬ a = 4 := by omega
    have g5 : ¬ a = 5 := by omega
    have g6 : ¬ a = 6 := by omega
    have g7 : ¬ a = 7 := by omega
    have g8 : ¬ a = 8 := by omega
    have g9 : ¬ a = 9 := by omega
    have g10 : ¬ a = 10 := by omega
    simp [opOkB, g1, g2, g3, g4, g5, g6, g7, g8, g9, g10]
  all_goals
    unfold opOkB
    generalize inB b 0 3 = p
    generalize inB c 1 6 = q
    generalize inB b 0 2 = s
    by_cases hc : c = 0 <;> by_cases hb : b = 0 <;> cases p <;> cases q <;> cases s <;> simp [hc, hb]
end Go.Proofs.YtopikhjcbcpiaaaGreat.Q
end
