/- Part 8 of the steps by which the law is shown: what each function of the program, of the reference and of the law computes. No condition. -/
import Derived.Test.YtopikhjcbcpiaaaBgn0
import Derived.Test.YtopikhjcbcpiaaaBgn2
import Derived.Test.YtopikhjcbcpiaaaBgn3
import Derived.Test.YtopikhjcbcpiaaaBgn4
import Derived.Test.YtopikhjcbcpiaaaBgn6
import Derived.Test.YtopikhjcbcpiaaaBgn7
namespace Go.Proofs.Ytopikhjcbcpiaaa.Q
open Go.RowKit Go.Proofs.YtopikhjcbcpiaaaW.PrintWords Go.Proofs.YtopikhjcbcpiaaaW.PrintLast Go.Proofs.YtopikhjcbcpiaaaW.PrintMore
attribute [local go_sem] max2_int min2_int max_two min_two max_three min_three max_four min_four   -- for this text's walks alone
set_option linter.unusedVariables false
set_option linter.unusedSimpArgs false
def laws_szDescS.l0 : Nat → List (S138) → Int → Int → Option (Int)
 | 0, _, _, _ => none
 | k + 1, x0, x1, x5 => if x5 < (x0.length : Int) then (if 0 ≤ x5 then ((laws_szDesc.f ((rd_T138 x0 x5).f0) ((rd_T138 x0 x5).f1) ((rd_T138 x0 x5).f2) ((rd_T138 x0 x5).f3.f0) ((rd_T138 x0 x5).f3.f1) x1).bind fun t298 => (if t298 < 0 then (some (-1)) else (laws_szDescS.l0 k x0 t298 (wrap64 (x5 + 1))))) else (none)) else (some x1)
def laws_szDescS.f (k : Nat) (l0 : List (S138)) (a1 : Int) : Option (Int) := if (wrap64 (a1 - (l0.length : Int))) < 0 then (some (-1)) else (laws_szDescS.l0 k l0 (wrap64 (a1 - (l0.length : Int))) 0)
set_option maxHeartbeats 8000000 in
set_option maxRecDepth 100000 in
theorem laws_szDescS.calls (k : Nat) (A0 : Option Addr) (c0 : Nat) (l0 : List (S138)) (a1 : Int) (r : Int) (w : World) (hr0 : Kd.C k138 w A0 l0.length l0) (hc0 : l0.length ≤ c0) (h : laws_szDescS.f k l0 a1 = some r) :
  Calls Try.prog 21 #[.slice A0 l0.length c0, .int .i64 a1] w fun e w' => e = .returned (.int .i64 r) ∧ Below w.heap.size w w' := by
 have hu138 := Try.underlying138
 have HR0 := Aside0.mk hr0
 have HC0 := Aside0.mk hc0
 clear hr0 hc0
 have HB := Aside0.mk (Below.refl w.heap.size w)
 have H := h
 clear h
 unfold laws_szDescS.f at H
 revert H; refine icd (fun c3b0 H => ?pos) fun c3b0 H => ?_
 case pos =>
  obtain rfl := oin H
  go_enter Try.func21, Try.ntmps21
  go_wp2
  go_ret
  exact ⟨er, tb HB⟩
 have H' := Aside0.mk H
 clear H
 go_enter Try.func21, Try.ntmps21
 go_wp2
 go_loopg [1, 5] k (fun kq v1 v5 w' => ∃ (x1_1 : Int) (x5_1 : Int), v1 = .int .i64 x1_1 ∧ v5 = .int .i64 x5_1 ∧ Aside0 (laws_szDescS.l0 kq l0 x1_1 x5_1 = some r) ∧ Aside0 (kq ≤ k) ∧ Aside0 (Below w.heap.size w w'))
 case atStart => exact ⟨(wrap64 (a1 - (l0.length : Int))), (0), rsd, rsd, H', ⟨Nat.le_refl _⟩, ⟨tb HB⟩⟩
 case round =>
  clear H'
  obtain ⟨x1_1, x5_1, rfl, rfl, HA, HK1, HB⟩ := hrel
  cases gk with
  | zero => exact absurd HA.out (by simp [laws_szDescS.l0])
  | succ k1 =>
   have H := HA.out
   clear HA
   simp only [laws_szDescS.l0] at H
   revert H; refine icd (fun c4b0 H => ?_) fun c4b0 H => ?neg
   case neg =>
    obtain rfl := oin H
    go_wp2
    go_ret
    exact ⟨er, tb HB⟩
   obtain ⟨c5b0, H⟩ := itd H
   obtain ⟨t298, A6, H⟩ := bn H
   try dsimp only at H
   revert H; refine icd (fun c7b0 H => ?_) fun c7b0 H => ?neg
   case neg =>
    have H' := Aside0.mk H
    clear H
    have p297 : 0 ≤ (x5_1 : Int) := od
    have q297 : x5_1 < (l0.length : Int) := od
    obtain ⟨ad297, A297_2, c297_2, A297_4, c297_4, e297, hx297, hl297_2, hi297_2, hl297_4, hi297_4⟩ := att138 HR0.out x5_1 p297 q297
    cases e297
    replace hx297 := ox5 HB hx297
    have HR297_2 := Aside0.mk hi297_2
    have HC297_2 := Aside0.mk hl297_2
    clear hi297_2 hl297_2
    have HR297_4 := Aside0.mk hi297_4
    have HC297_4 := Aside0.mk hl297_4
    clear hi297_4 hl297_4
    replace p297 := eq_true p297
    replace q297 := eq_true q297
    go_wp2_with (first | ((with_reducible refine gf 95 rfl ?_); refine gL 23 Try.func95 #[.agg #[.int .i64 ((rd_T138 l0 x5_1).f0), .int .i64 ((rd_T138 l0 x5_1).f1), .slice A297_2 ((rd_T138 l0 x5_1).f2).length c297_2, .int .i64 ((rd_T138 l0 x5_1).f3.f0), .slice A297_4 ((rd_T138 l0 x5_1).f3.f1).length c297_4], .int .i64 x1_1] ?_; (with_reducible refine (laws_szDesc.calls ((rd_T138 l0 x5_1).f0) ((rd_T138 l0 x5_1).f1) _ _ ((rd_T138 l0 x5_1).f2) ((rd_T138 l0 x5_1).f3.f0) _ _ ((rd_T138 l0 x5_1).f3.f1) x1_1 t298 _ (kc HR297_2 HB) HC297_2.out (kc HR297_4 HB) HC297_4.out A6.out).mono ?_); rintro e w9 ⟨rfl, hb⟩; refine ⟨_, rfl, ?_⟩; replace HB := bs HB hb; (try clear hb)))
    go_roundg k1
    case measure => have := HK1.out; omega
    case rel => exact ⟨(t298), (wrap64 (x5_1 + 1)), rsd, rsd, H', ⟨by have := HK1.out; omega⟩, ⟨tb HB⟩⟩
   obtain rfl := oin H
   have p297 : 0 ≤ (x5_1 : Int) := od
   have q297 : x5_1 < (l0.length : Int) := od
   obtain ⟨ad297, A297_2, c297_2, A297_4, c297_4, e297, hx297_0, hx297_1, hx297_2, hx297_3, hx297_4, hl297_2, hi297_2, hl297_4, hi297_4⟩ := at_T138 HR0.out x5_1 p297 q297
   cases e297
   replace hx297_0 := ox HB hx297_0
   replace hx297_1 := ox HB hx297_1
   replace hx297_2 := ox HB hx297_2
   replace hx297_3 := ox HB hx297_3
   replace hx297_4 := ox HB hx297_4
   have HR297_2 := Aside0.mk hi297_2
   have HC297_2 := Aside0.mk hl297_2
   clear hi297_2 hl297_2
   have HR297_4 := Aside0.mk hi297_4
   have HC297_4 := Aside0.mk hl297_4
   clear hi297_4 hl297_4
   replace p297 := eq_true p297
   replace q297 := eq_true q297
   go_wp2_with (first | ((with_reducible refine gf 95 rfl ?_); refine gL 23 Try.func95 #[.agg #[.int .i64 ((rd_T138 l0 x5_1).f0), .int .i64 ((rd_T138 l0 x5_1).f1), .slice A297_2 ((rd_T138 l0 x5_1).f2).length c297_2, .int .i64 ((rd_T138 l0 x5_1).f3.f0), .slice A297_4 ((rd_T138 l0 x5_1).f3.f1).length c297_4], .int .i64 x1_1] ?_; (with_reducible refine (laws_szDesc.calls ((rd_T138 l0 x5_1).f0) ((rd_T138 l0 x5_1).f1) _ _ ((rd_T138 l0 x5_1).f2) ((rd_T138 l0 x5_1).f3.f0) _ _ ((rd_T138 l0 x5_1).f3.f1) x1_1 t298 _ (kc HR297_2 HB) HC297_2.out (kc HR297_4 HB) HC297_4.out A6.out).mono ?_); rintro e w8 ⟨rfl, hb⟩; refine ⟨_, rfl, ?_⟩; replace HB := bs HB hb; (try clear hb)))
   go_ret
   exact ⟨er, tb HB⟩
def laws_toDescS.l0 : Nat → List (S138) → List (S145) → Int → Option ((List (S145)))
 | 0, _, _, _ => none
 | k + 1, x0, x3, x4 => if x4 < (x0.length : Int) then (if 0 ≤ x4 then ((laws_toDesc.f k ((rd_T138 x0 x4).f0) ((rd_T138 x0 x4).f1) ((rd_T138 x0 x4).f2) ((rd_T138 x0 x4).f3.f0) ((rd_T138 x0 x4).f3.f1)).bind fun bt363 => (if x4 < (x3.length : Int) then (laws_toDescS.l0 k x0 (x3.set (x4 : Int).toNat (⟨bt363.1, bt363.2.1, bt363.2.2.1, (⟨bt363.2.2.2.1, bt363.2.2.2.2⟩ : S70)⟩ : S145)) (wrap64 (x4 + 1))) else (none))) else (none)) else (some x3)
def laws_toDescS.f (k : Nat) (l0 : List (S138)) : Option ((List (S145))) := if 0 ≤ (l0.length : Int) then (if ((l0.length : Int) : Int).toNat ≤ 3909374676536 then (laws_toDescS.l0 k l0 (List.replicate ((l0.length : Int) : Int).toNat z145) 0) else (none)) else (none)
set_option maxHeartbeats 8000000 in
set_option maxRecDepth 100000 in
theorem laws_toDescS.calls (k : Nat) (A0 : Option Addr) (c0 : Nat) (l0 : List (S138)) (r : List (S145)) (w : World) (hr0 : Kd.C k138 w A0 l0.length l0) (hc0 : l0.length ≤ c0) (h : laws_toDescS.f k l0 = some r) :
  Calls Try.prog 24 #[.slice A0 l0.length c0] w fun e w' => ∃ v0_ : Value, e = .returned (v0_) ∧ Kd.S k145 145 w' w.heap.size (fun _ => True) v0_ r ∧ Below w.heap.size w w' := by
 have hu138 := Try.underlying138
 have hu145 := Try.underlying145
 have HR0 := Aside0.mk hr0
 have HC0 := Aside0.mk hc0
 clear hr0 hc0
 have HB := Aside0.mk (Below.refl w.heap.size w)
 have H := h
 clear h
 unfold laws_toDescS.f at H
 obtain ⟨c2b0, c2b1, H⟩ := itb H
 obtain ⟨c3b0, c3b1, H⟩ := itb H
 obtain ⟨y359, hy359⟩ : ∃ y_ : List (S145), y_ = (List.replicate ((l0.length : Int) : Int).toNat z145) := ⟨_, rfl⟩
 replace H : (laws_toDescS.l0 k l0 y359 0) = some r := by first | (rw [hy359]; with_reducible exact H) | (have H2_ := (Option.bind_some _ _).symm.trans H; rw [hy359]; with_reducible exact H2_) | (have H2_ := (Option.bind_some _ _).symm.trans H; with_reducible exact H2_) | with_reducible exact H | (rw [hy359]; exact H) | exact H
 have Ny359 := Aside0.mk hy359
 clear hy359
 have H' := Aside0.mk H
 clear H
 go_enter Try.func24, Try.ntmps24
 go_wp2_with (first | ((with_reducible refine gq 7 rfl ?_); refine Kd.S_make k145 _ 145 rfl (N := 7) rfl 49 _ _ rfl (l0.length : Int) rfl rfl Try.underlying49 (.agg #[(.int .i64 0), (.int .i64 0), (.slice none 0 0), (.int .i64 0), (.slice none 0 0)]) 72 info145 rfl (by decide) (by omega) z145 (ok := fun _ => True) (okp := fun _ => True) (k145_mkM _ _ _ z145 (Kd.R_nil _ _ _ _ _) (Kd.R_nil _ _ _ _ _)) (fun _ hk => hk) trivial (od) (Nat.le_trans (Nat.mul_le_mul_right _ (od : (l0.length : Int).toNat ≤ 3909374676536)) (by omega)) (Below.refl _ _) (Nat.le_refl _) ?_; intro v360 w4 ho5 hb hg_ hnew_; clear hg_ hnew_; (first | rw [← Ny359.out] at ho5 | (simp only [Int.reduceToNat] at ho5; rw [← Ny359.out] at ho5)); have HO361 := Aside0.mk (Kd.S_lower ho5 (below_size (tb HB))); replace HB := bs HB hb; clear hb ho5))
 go_loopg [4] k (fun kq v4 w' => ∃ (x3_1 : List (S145)) (x4_1 : Int), v4 = .int .i64 x4_1 ∧ Aside0 (laws_toDescS.l0 kq l0 x3_1 x4_1 = some r) ∧ Aside0 (kq ≤ k) ∧ Aside0 (Kd.S k145 145 w' w.heap.size (fun _ => True) v360 x3_1) ∧ Aside0 (Below w.heap.size w w'))
 case atStart => exact ⟨(y359), (0), rsd, H', ⟨Nat.le_refl _⟩, ⟨by (with_reducible repeat (first | apply Kd.S_alloc | apply Kd.S_drewN | apply Kd.S_drew)); exact HO361.out⟩, ⟨tb HB⟩⟩
 case round =>
  clear H'
  obtain ⟨x3_1, x4_1, rfl, HA, HK1, HO_3, HB⟩ := hrel
  cases gk with
  | zero => exact absurd HA.out (by simp [laws_toDescS.l0])
  | succ k1 =>
   have H := HA.out
   clear HA
   simp only [laws_toDescS.l0] at H
   revert H; refine icd (fun c6b0 H => ?_) fun c6b0 H => ?neg
   case neg =>
    obtain rfl := oin H
    go_wp2
    go_ret
    exact ⟨_, er, by (with_reducible repeat (first | apply Kd.S_alloc | apply Kd.S_drewN | apply Kd.S_drew)); exact HO_3.out, tb HB⟩
   obtain ⟨c7b0, H⟩ := itd H
   obtain ⟨⟨t363, t364, t365, t368, t369⟩, A8, H⟩ := bn H
   try dsimp only at H
   obtain ⟨c9b0, H⟩ := itd H
   obtain ⟨y372, hy372⟩ : ∃ y_ : List (S145), y_ = (x3_1.set (x4_1 : Int).toNat (⟨t363, t364, t365, (⟨t368, t369⟩ : S70)⟩ : S145)) := ⟨_, rfl⟩
   replace H : (laws_toDescS.l0 k1 l0 y372 (wrap64 (x4_1 + 1))) = some r := by first | (rw [hy372]; with_reducible exact H) | (have H2_ := (Option.bind_some _ _).symm.trans H; rw [hy372]; with_reducible exact H2_) | (have H2_ := (Option.bind_some _ _).symm.trans H; with_reducible exact H2_) | with_reducible exact H | (rw [hy372]; exact H) | exact H
   have Ny372 := Aside0.mk hy372
   clear hy372
   have H' := Aside0.mk H
   clear H
   have p362 : 0 ≤ (x4_1 : Int) := od
   have q362 : x4_1 < (l0.length : Int) := od
   obtain ⟨ad362, A362_2, c362_2, A362_4, c362_4, e362, hx362, hl362_2, hi362_2, hl362_4, hi362_4⟩ := att138 HR0.out x4_1 p362 q362
   cases e362
   replace hx362 := ox5 HB hx362
   have HR362_2 := Aside0.mk hi362_2
   have HC362_2 := Aside0.mk hl362_2
   clear hi362_2 hl362_2
   have HR362_4 := Aside0.mk hi362_4
   have HC362_4 := Aside0.mk hl362_4
   clear hi362_4 hl362_4
   replace p362 := eq_true p362
   replace q362 := eq_true q362
   go_wp2_with (first | ((with_reducible refine gf 98 rfl ?_); refine gL 20 Try.func98 #[.agg #[.int .i64 ((rd_T138 l0 x4_1).f0), .int .i64 ((rd_T138 l0 x4_1).f1), .slice A362_2 ((rd_T138 l0 x4_1).f2).length c362_2, .int .i64 ((rd_T138 l0 x4_1).f3.f0), .slice A362_4 ((rd_T138 l0 x4_1).f3.f1).length c362_4]] ?_; (with_reducible refine (laws_toDesc.calls k1 ((rd_T138 l0 x4_1).f0) ((rd_T138 l0 x4_1).f1) _ _ ((rd_T138 l0 x4_1).f2) ((rd_T138 l0 x4_1).f3.f0) _ _ ((rd_T138 l0 x4_1).f3.f1) t363 t364 t365 t368 t369 _ (kc HR362_2 HB) HC362_2.out (kc HR362_4 HB) HC362_4.out A8.out).mono ?_); rintro e w11 ⟨v366, v370, rfl, ho0, ho1, hb⟩; refine ⟨_, rfl, ?_⟩; replace HO_3 := Aside0.mk (Kd.S_mono (Kd.S_told (Kd.S_told (Kd.S_old (by (with_reducible repeat (first | apply Kd.S_alloc | apply Kd.S_drewN | apply Kd.S_drew)); exact HO_3.out) hb) (Kd.R_base ho0)) (Kd.R_base ho1)) (fun _ h_ => h_.1)); have HO367 := Aside0.mk (Kd.R_lower ho0 (below_size (tb HB))); have HO371 := Aside0.mk (Kd.R_lower ho1 (below_size (tb HB))); replace HB := bs HB hb; (try clear hb); (try clear ho0); (try clear ho1); have p10 : 0 ≤ (x4_1 : Int) := od; have q10 : (x4_1 : Int) < ((x3_1.length : Int) : Int) := od; obtain ⟨go10, co10, eo10, gb10, gl10, cl10, HG10⟩ := Kd.S_form HO_3.out (by omega); (first | cases eo10 | (injection eo10 with ea_ en_ ec_; (first | subst ea_ | (injection ea_ with ea_; subst ea_)); subst ec_; clear en_)); have GB10 := Aside0.mk gb10; have GG10 := Aside0.mk HG10; clear gb10 gl10 HG10; obtain ⟨_, ce10, hcl10, hM10, hcc10, hfr10, _, _⟩ := Kd.S_elem HO_3.out z145 (x4_1 : Int) p10 q10; obtain ⟨ve10_2, ve10_4, rfl, ge10_2, ge10_4⟩ := k145_openM hM10; have hx10_0 : w11.cell? ⟨go10, (x4_1 : Int).toNat * 5, none⟩ = some (.int .i64 ((rd_T145 x3_1 x4_1).f0)) := hcc10 0 _ rfl; have hx10_1 : w11.cell? ⟨go10, (x4_1 : Int).toNat * 5 + 1, none⟩ = some (.int .i64 ((rd_T145 x3_1 x4_1).f1)) := hcc10 1 _ rfl; have hx10_2 : w11.cell? ⟨go10, (x4_1 : Int).toNat * 5 + 2, none⟩ = some (ve10_2) := hcc10 2 _ rfl; have hx10_3 : w11.cell? ⟨go10, (x4_1 : Int).toNat * 5 + 3, none⟩ = some (.int .i64 ((rd_T145 x3_1 x4_1).f3.f0)) := hcc10 3 _ rfl; have hx10_4 : w11.cell? ⟨go10, (x4_1 : Int).toNat * 5 + 4, none⟩ = some (ve10_4) := hcc10 4 _ rfl; have hf10_0 : w11.frozen? ⟨go10, (x4_1 : Int).toNat * 5, none⟩ = false := hfr10 0; have hf10_1 : w11.frozen? ⟨go10, (x4_1 : Int).toNat * 5 + 1, none⟩ = false := hfr10 1; have hf10_2 : w11.frozen? ⟨go10, (x4_1 : Int).toNat * 5 + 2, none⟩ = false := hfr10 2; have hf10_3 : w11.frozen? ⟨go10, (x4_1 : Int).toNat * 5 + 3, none⟩ = false := hfr10 3; have hf10_4 : w11.frozen? ⟨go10, (x4_1 : Int).toNat * 5 + 4, none⟩ = false := hfr10 4; clear hcl10 hcc10 hfr10 hM10; replace p10 := eq_true p10; replace q10 := eq_true q10; obtain ⟨Ao14, co14, eo14⟩ := Kd.R_slice HO367.out; subst eo14; obtain ⟨Ao15, co15, eo15⟩ := Kd.R_slice HO371.out; subst eo15; have n_ := Aside0.mk (Kd.S_mono (ok' := (fun k_ => some k_ ≠ (.slice Ao14 t365.length co14 : Value).ownBlock ∧ some k_ ≠ (.slice Ao15 t369.length co15 : Value).ownBlock)) HO_3.out (fun k_ hk => ⟨hk.1.2, hk.2⟩)); clear HO_3; have HO_3 := n_; clear n_; have HX12 := Aside0.mk (show Kd.S k145 145 w11 w.heap.size (fun k_ => ((fun _ => True)) k_ ∧ ¬ ((fun k_ => some k_ = (.slice Ao14 t365.length co14 : Value).ownBlock ∨ some k_ = (.slice Ao15 t369.length co15 : Value).ownBlock)) k_) (.slice (some ⟨go10, 0, none⟩) x3_1.length co10) x3_1 from (by (with_reducible repeat (first | apply Kd.S_alloc | apply Kd.S_drewN | apply Kd.S_drew)); exact Kd.S_mono HO_3.out (fun k_ hk => ⟨trivial, fun e_ => e_.elim (fun h_ => hk.1 h_) (fun h_ => hk.2 h_)⟩))); obtain ⟨oki12, ce12, hcl12, hM12, hcc12, hfr12, hoki12, hH12⟩ := Kd.S_elem HX12.out z145 (x4_1 : Int) (od) (by have h_ : (x4_1 : Int) < ((x3_1.length : Int) : Int) := od; first | exact h_ | (have e_ := (Kd.S_reads' HO_3.out).1; omega) | simpa using h_); obtain ⟨ve12_2, ve12_4, rfl, ge12_2, ge12_4⟩ := k145_openM hM12; have HP12 := Kd.S_seg hH12 (od) (by have h_ : (x4_1 : Int) < ((x3_1.length : Int) : Int) := od; first | exact h_ | (have e_ := (Kd.S_reads' HO_3.out).1; omega) | simpa using h_) (seg := [.int .i64 t363, .int .i64 t364, .slice Ao14 t365.length co14, .int .i64 t368, .slice Ao15 t369.length co15]) (j := 0) (show 5 ≤ 5 from by decide) (x' := (⟨t363, t364, t365, (⟨t368, t369⟩ : S70)⟩ : S145)) (k145_mkM _ _ _ (⟨t363, t364, t365, (⟨t368, t369⟩ : S70)⟩ : S145) (Kd.R_mono (Kd.R_tight rfl (Kd.R_mono (ok' := fun k_ => ((fun _ => True)) k_ ∧ k_ ≠ go10) (Kd.R_apart' (HO367.out) (Kd.S_typed HO_3.out) (by decide)) (fun k_ hk => ⟨trivial, fun e_ => (hk.2) (by rw [e_]; rfl)⟩))) (fun _ h_ => Or.inr (Or.inl h_))) (Kd.R_mono (Kd.R_tight rfl (Kd.R_mono (ok' := fun k_ => ((fun _ => True)) k_ ∧ k_ ≠ go10) (Kd.R_apart' (HO371.out) (Kd.S_typed HO_3.out) (by decide)) (fun k_ hk => ⟨trivial, fun e_ => (hk.2) (by rw [e_]; rfl)⟩))) (fun _ h_ => Or.inr (Or.inr (h_))))) (fun _ hk => hk) (fun k_ hk_ => hk_.elim (fun h_ => ((Kd.R_mono (ok' := fun k_ => ((fun _ => True)) k_ ∧ k_ ≠ go10) (Kd.R_apart' (HO367.out) (Kd.S_typed HO_3.out) (by decide)) (fun k_ hk => ⟨trivial, fun e_ => (hk.2) (by rw [e_]; rfl)⟩))).1 k_ h_.symm) (fun h_ => ((Kd.R_mono (ok' := fun k_ => ((fun _ => True)) k_ ∧ k_ ≠ go10) (Kd.R_apart' (HO371.out) (Kd.S_typed HO_3.out) (by decide)) (fun k_ hk => ⟨trivial, fun e_ => (hk.2) (by rw [e_]; rfl)⟩))).1 k_ h_.symm)); have hx12_0 := hcc12 0 _ rfl; (try simp only [show (k145).sz = 5 from rfl, Nat.mul_one, Nat.add_zero] at hx12_0); have hf12_0 := hfr12 0; (try simp only [show (k145).sz = 5 from rfl, Nat.mul_one, Nat.add_zero] at hf12_0); have hx12_1 := hcc12 1 _ rfl; (try simp only [show (k145).sz = 5 from rfl, Nat.mul_one, Nat.add_zero] at hx12_1); have hf12_1 := hfr12 1; (try simp only [show (k145).sz = 5 from rfl, Nat.mul_one, Nat.add_zero] at hf12_1); have hx12_2 := hcc12 2 _ rfl; (try simp only [show (k145).sz = 5 from rfl, Nat.mul_one, Nat.add_zero] at hx12_2); have hf12_2 := hfr12 2; (try simp only [show (k145).sz = 5 from rfl, Nat.mul_one, Nat.add_zero] at hf12_2); have hx12_3 := hcc12 3 _ rfl; (try simp only [show (k145).sz = 5 from rfl, Nat.mul_one, Nat.add_zero] at hx12_3); have hf12_3 := hfr12 3; (try simp only [show (k145).sz = 5 from rfl, Nat.mul_one, Nat.add_zero] at hf12_3); have hx12_4 := hcc12 4 _ rfl; (try simp only [show (k145).sz = 5 from rfl, Nat.mul_one, Nat.add_zero] at hx12_4); have hf12_4 := hfr12 4; (try simp only [show (k145).sz = 5 from rfl, Nat.mul_one, Nat.add_zero] at hf12_4); clear hcl12 hcc12 hfr12 hM12 hoki12 hH12) | ((with_reducible refine gate_store (t := 145) (p := 21) rfl ?_); refine store_event (t := 145) (p := 21) (v := ?vo_w13) (w1 := (((((w11.setCell ⟨go10, (x4_1 : Int).toNat * 5, none⟩ (.int .i64 t363)).setCell ⟨go10, (x4_1 : Int).toNat * 5 + 1, none⟩ (.int .i64 t364)).setCell ⟨go10, (x4_1 : Int).toNat * 5 + 2, none⟩ (.slice Ao14 t365.length co14)).setCell ⟨go10, (x4_1 : Int).toNat * 5 + 3, none⟩ (.int .i64 t368)).setCell ⟨go10, (x4_1 : Int).toNat * 5 + 4, none⟩ (.slice Ao15 t369.length co15))) ?hg ?ho ?hn ?hr ?_; (case ho => rfl); (case hg => rfl); (case hn => rfl); (case hr => first | (go_simp; done) | (go_simp; rfl)); intro w13 hw; have hg : w11.grownBy w13 (some go10) := (by rw [hw]; exact HP12.2); have hp_ : Kd.S k145 145 w13 w.heap.size (fun _ => True) (.slice (some ⟨go10, 0, none⟩) x3_1.length co10) y372 := (by rw [hw, Ny372.out]; exact HP12.1); clear HP12; replace HO_3 := Aside0.mk (hp_); replace HB := Aside0.mk ((by rw [hw]; exact below_set (below_set (below_set (below_set (below_set (HB.out) GB10.out) GB10.out) GB10.out) GB10.out) GB10.out : Below w.heap.size w w13)); clear HO367 HO371; clear hg hw hp_))
   go_roundg k1
   case measure => have := HK1.out; omega
   case rel => exact ⟨(y372), (wrap64 (x4_1 + 1)), rsd, H', ⟨by have := HK1.out; omega⟩, ⟨by (with_reducible repeat (first | apply Kd.S_alloc | apply Kd.S_drewN | apply Kd.S_drew)); exact HO_3.out⟩, ⟨tb HB⟩⟩
def laws_eqDescS.l0 : Nat → List (S145) → List (S145) → Int → Option (Bool)
 | 0, _, _, _ => none
 | k + 1, x0, x1, x5 => if x5 < (x0.length : Int) then (if 0 ≤ x5 then (if x5 < (x1.length : Int) then ((laws_eqDesc.f k ((rd_T145 x0 x5).f0) ((rd_T145 x0 x5).f1) ((rd_T145 x0 x5).f2) ((rd_T145 x0 x5).f3.f0) ((rd_T145 x0 x5).f3.f1) ((rd_T145 x1 x5).f0) ((rd_T145 x1 x5).f1) ((rd_T145 x1 x5).f2) ((rd_T145 x1 x5).f3.f0) ((rd_T145 x1 x5).f3.f1)).bind fun t414 => (if t414 = true then (laws_eqDescS.l0 k x0 x1 (wrap64 (x5 + 1))) else (some false))) else (none)) else (none)) else (some true)
def laws_eqDescS.f (k : Nat) (l0 : List (S145)) (l1 : List (S145)) : Option (Bool) := if (l0.length : Int) = (l1.length : Int) then (laws_eqDescS.l0 k l0 l1 0) else (some false)
def laws_eqDescS.T6 : Bool × List (List Nat × List Nat) := (true, [([], []), ([], []), ([0, 1], [0, 1]), ([2], [2]), ([], []), ([], []), ([4, 5], [4, 5]), ([6], [6]), ([3, 7], [3, 7]), ([8], [8])])
def laws_eqDescS.B6 : List Nat := [0, 0, 3, 7, 0, 0, 48, 112, 255, 511]
theorem laws_eqDescS.tab6 : rtab .any (opsOf Try.f27 6) = laws_eqDescS.T6 := by kernel_rfl
theorem laws_eqDescS.bits6 : waitsOk laws_eqDescS.T6.2 laws_eqDescS.B6 = true := by kernel_rfl
set_option maxHeartbeats 8000000 in
set_option maxRecDepth 100000 in
theorem laws_eqDescS.calls (k : Nat) (A0 : Option Addr) (c0 : Nat) (l0 : List (S145)) (A1 : Option Addr) (c1 : Nat) (l1 : List (S145)) (r : Bool) (w : World) (hr0 : Kd.C k145 w A0 l0.length l0) (hc0 : l0.length ≤ c0) (hr1 : Kd.C k145 w A1 l1.length l1) (hc1 : l1.length ≤ c1) (h : laws_eqDescS.f k l0 l1 = some r) :
  Calls Try.prog 27 #[.slice A0 l0.length c0, .slice A1 l1.length c1] w fun e w' => e = .returned (.bool r) ∧ Below w.heap.size w w' := by
 have hu145 := Try.underlying145
 have HR0 := Aside0.mk hr0
 have HC0 := Aside0.mk hc0
 clear hr0 hc0
 have HR1 := Aside0.mk hr1
 have HC1 := Aside0.mk hc1
 clear hr1 hc1
 have HB := Aside0.mk (Below.refl w.heap.size w)
 have H := h
 clear h
 unfold laws_eqDescS.f at H
 by_cases c3 : (l0.length : Int) = (l1.length : Int)
 case neg =>
  rw [if_neg c3] at H
  have c3b0 : ((l0.length : Int) == (l1.length : Int)) = false := beq_eq_false_iff_ne.mpr c3
  have c3b1 : ((l0.length : Int) != (l1.length : Int)) = true := bne_iff_ne.mpr c3
  have c3b2 : (l0.length == l1.length) = false := by first | simpa using c3 | (simp at c3 ⊢; omega)
  obtain rfl := oin H
  go_enter Try.func27, Try.ntmps27
  go_wp2
  go_ret
  exact ⟨er, tb HB⟩
 
 
 rw [if_pos c3] at H
 have c3b0 : ((l0.length : Int) == (l1.length : Int)) = true := beq_iff_eq.mpr c3
 have c3b1 : ((l0.length : Int) != (l1.length : Int)) = false := bne_eq_false_iff_eq.mpr c3
 have c3b2 : (l0.length == l1.length) = true := by first | simpa using c3 | (simp at c3 ⊢; omega)
 clear c3
 have H' := Aside0.mk H
 clear H
 go_enter Try.func27, Try.ntmps27
 go_wp2
 go_loopg [5] k (fun kq v5 w' => ∃ (x5_1 : Int), v5 = .int .i64 x5_1 ∧ Aside0 (laws_eqDescS.l0 kq l0 l1 x5_1 = some r) ∧ Aside0 (kq ≤ k) ∧ Aside0 (Below w.heap.size w w'))
 case atStart => exact ⟨(0), rsd, H', ⟨Nat.le_refl _⟩, ⟨tb HB⟩⟩
 case round =>
  clear H'
  obtain ⟨x5_1, rfl, HA, HK1, HB⟩ := hrel
  cases gk with
  | zero => exact absurd HA.out (by simp [laws_eqDescS.l0])
  | succ k1 =>
   have H := HA.out
   clear HA
   simp only [laws_eqDescS.l0] at H
   revert H; refine icd (fun c4b0 H => ?_) fun c4b0 H => ?neg
   case neg =>
    obtain rfl := oin H
    go_wp2
    go_ret
    exact ⟨er, tb HB⟩
   obtain ⟨c5b0, H⟩ := itd H
   obtain ⟨c6b0, H⟩ := itd H
   obtain ⟨t414, A7, H⟩ := bn H
   try dsimp only at H
   cases t414
   case false =>
    replace H := ipf H
    obtain rfl := oin H
    try go_wp2
    replace HB := Aside0.mk (below_drew1 HB.out)
    have p412 : 0 ≤ (x5_1 : Int) := od
    have q412 : x5_1 < (l0.length : Int) := od
    obtain ⟨ad412, A412_2, c412_2, A412_4, c412_4, e412, hx412, hl412_2, hi412_2, hl412_4, hi412_4⟩ := att145 HR0.out x5_1 p412 q412
    have hw412 := hx412
    cases e412
    replace hx412 := ox5 HB hx412
    have HR412_2 := Aside0.mk hi412_2
    have HC412_2 := Aside0.mk hl412_2
    clear hi412_2 hl412_2
    have HR412_4 := Aside0.mk hi412_4
    have HC412_4 := Aside0.mk hl412_4
    clear hi412_4 hl412_4
    replace p412 := eq_true p412
    replace q412 := eq_true q412
    have p413 : 0 ≤ (x5_1 : Int) := od
    have q413 : x5_1 < (l1.length : Int) := od
    obtain ⟨ad413, A413_2, c413_2, A413_4, c413_4, e413, hx413, hl413_2, hi413_2, hl413_4, hi413_4⟩ := att145 HR1.out x5_1 p413 q413
    have hw413 := hx413
    cases e413
    replace hx413 := ox5 HB hx413
    have HR413_2 := Aside0.mk hi413_2
    have HC413_2 := Aside0.mk hl413_2
    clear hi413_2 hl413_2
    have HR413_4 := Aside0.mk hi413_4
    have HC413_4 := Aside0.mk hl413_4
    clear hi413_4 hl413_4
    replace p413 := eq_true p413
    replace q413 := eq_true q413
    refine start_ (n := 10) (S := fun w' => eT145 (ad412.add ((x5_1).toNat * 5)) (rd_T145 l0 x5_1) A412_2 c412_2 A412_4 c412_4 w' ∧ eT145 (ad413.add ((x5_1).toNat * 5)) (rd_T145 l1 x5_1) A413_2 c413_2 A413_4 c413_4 w') (ds := []) #[false, false, false, false, false, false, false, false, false, false] (by kernel_rfl) rfl rfl ⟨(ox5 HB hw412 :), (ox5 HB hw413 :)⟩ (fun hHeld => ?_); refine with_tabW laws_eqDescS.tab6 laws_eqDescS.bits6 (fun HT_ HW_ => ?_)
    generalize wr.drew = w11 at HB HR412_2 HR412_4 HR413_2 HR413_4 hx412 hx413 hHeld ⊢
    refine pu 0 17 ?_; refine pu 1 18 ?_; refine pu 2 19 ?_; refine pu 4 21 ?_; refine pu 5 22 ?_; refine pu 6 23 ?_; refine ta 3 20 ?_; refine ta 7 24 ?_
    refine on1 8 (some 25) (fun K hK => ?_)
    refine gS Try.func101 #[.agg #[.int .i64 ((rd_T145 l0 x5_1).f0), .int .i64 ((rd_T145 l0 x5_1).f1), .slice A412_2 ((rd_T145 l0 x5_1).f2).length c412_2, .int .i64 ((rd_T145 l0 x5_1).f3.f0), .slice A412_4 ((rd_T145 l0 x5_1).f3.f1).length c412_4], .agg #[.int .i64 ((rd_T145 l1 x5_1).f0), .int .i64 ((rd_T145 l1 x5_1).f1), .slice A413_2 ((rd_T145 l1 x5_1).f2).length c413_2, .int .i64 ((rd_T145 l1 x5_1).f3.f0), .slice A413_4 ((rd_T145 l1 x5_1).f3.f1).length c413_4]] ?_
    with_reducible refine (laws_eqDesc.calls k1 ((rd_T145 l0 x5_1).f0) ((rd_T145 l0 x5_1).f1) _ _ ((rd_T145 l0 x5_1).f2) ((rd_T145 l0 x5_1).f3.f0) _ _ ((rd_T145 l0 x5_1).f3.f1) ((rd_T145 l1 x5_1).f0) ((rd_T145 l1 x5_1).f1) _ _ ((rd_T145 l1 x5_1).f2) ((rd_T145 l1 x5_1).f3.f0) _ _ ((rd_T145 l1 x5_1).f3.f1) false _ ?side1 ?side2 ?side3 ?side4 ?side5 ?side6 ?side7 ?side8 A7.out).mono ?_
    (case side1 => exact kc HR412_2 HB)
    (case side2 => exact HC412_2.out)
    (case side3 => exact kc HR412_4 HB)
    (case side4 => exact HC412_4.out)
    (case side5 => exact kc HR413_2 HB)
    (case side6 => exact HC413_2.out)
    (case side7 => exact kc HR413_4 HB)
    (case side8 => exact HC413_4.out)
    rintro e w12 ⟨rfl, hb⟩
    refine ⟨_, rfl, ?_⟩
    replace HB := bs HB hb
    (try clear hb)
    (try clear hb2)
    (try clear hk)
    (try clear hi)
    refine hK.out _ _ ⟨(ox5 HB hw412 :), (ox5 HB hw413 :)⟩ (fun hHeld => ?_)
    clear hK K
    refine nm 25 ?_
    refine pu 9 26 ?_
    refine done_ (done_of HT_.out (by kernel_rfl)) ?_
    try go_wp2
    go_ret
    exact ⟨er, tb HB⟩
   replace H := ipt H
   have H' := Aside0.mk H
   clear H
   try go_wp2
   replace HB := Aside0.mk (below_drew1 HB.out)
   have p412 : 0 ≤ (x5_1 : Int) := od
   have q412 : x5_1 < (l0.length : Int) := od
   obtain ⟨ad412, A412_2, c412_2, A412_4, c412_4, e412, hx412, hl412_2, hi412_2, hl412_4, hi412_4⟩ := att145 HR0.out x5_1 p412 q412
   have hw412 := hx412
   cases e412
   replace hx412 := ox5 HB hx412
   have HR412_2 := Aside0.mk hi412_2
   have HC412_2 := Aside0.mk hl412_2
   clear hi412_2 hl412_2
   have HR412_4 := Aside0.mk hi412_4
   have HC412_4 := Aside0.mk hl412_4
   clear hi412_4 hl412_4
   replace p412 := eq_true p412
   replace q412 := eq_true q412
   have p413 : 0 ≤ (x5_1 : Int) := od
   have q413 : x5_1 < (l1.length : Int) := od
   obtain ⟨ad413, A413_2, c413_2, A413_4, c413_4, e413, hx413, hl413_2, hi413_2, hl413_4, hi413_4⟩ := att145 HR1.out x5_1 p413 q413
   have hw413 := hx413
   cases e413
   replace hx413 := ox5 HB hx413
   have HR413_2 := Aside0.mk hi413_2
   have HC413_2 := Aside0.mk hl413_2
   clear hi413_2 hl413_2
   have HR413_4 := Aside0.mk hi413_4
   have HC413_4 := Aside0.mk hl413_4
   clear hi413_4 hl413_4
   replace p413 := eq_true p413
   replace q413 := eq_true q413
   refine start_ (n := 10) (S := fun w' => eT145 (ad412.add ((x5_1).toNat * 5)) (rd_T145 l0 x5_1) A412_2 c412_2 A412_4 c412_4 w' ∧ eT145 (ad413.add ((x5_1).toNat * 5)) (rd_T145 l1 x5_1) A413_2 c413_2 A413_4 c413_4 w') (ds := []) #[false, false, false, false, false, false, false, false, false, false] (by kernel_rfl) rfl rfl ⟨(ox5 HB hw412 :), (ox5 HB hw413 :)⟩ (fun hHeld => ?_); refine with_tabW laws_eqDescS.tab6 laws_eqDescS.bits6 (fun HT_ HW_ => ?_)
   generalize wr.drew = w9 at HB HR412_2 HR412_4 HR413_2 HR413_4 hx412 hx413 hHeld ⊢
   refine pu 0 17 ?_; refine pu 1 18 ?_; refine pu 2 19 ?_; refine pu 4 21 ?_; refine pu 5 22 ?_; refine pu 6 23 ?_; refine ta 3 20 ?_; refine ta 7 24 ?_
   refine on1 8 (some 25) (fun K hK => ?_)
   refine gS Try.func101 #[.agg #[.int .i64 ((rd_T145 l0 x5_1).f0), .int .i64 ((rd_T145 l0 x5_1).f1), .slice A412_2 ((rd_T145 l0 x5_1).f2).length c412_2, .int .i64 ((rd_T145 l0 x5_1).f3.f0), .slice A412_4 ((rd_T145 l0 x5_1).f3.f1).length c412_4], .agg #[.int .i64 ((rd_T145 l1 x5_1).f0), .int .i64 ((rd_T145 l1 x5_1).f1), .slice A413_2 ((rd_T145 l1 x5_1).f2).length c413_2, .int .i64 ((rd_T145 l1 x5_1).f3.f0), .slice A413_4 ((rd_T145 l1 x5_1).f3.f1).length c413_4]] ?_
   with_reducible refine (laws_eqDesc.calls k1 ((rd_T145 l0 x5_1).f0) ((rd_T145 l0 x5_1).f1) _ _ ((rd_T145 l0 x5_1).f2) ((rd_T145 l0 x5_1).f3.f0) _ _ ((rd_T145 l0 x5_1).f3.f1) ((rd_T145 l1 x5_1).f0) ((rd_T145 l1 x5_1).f1) _ _ ((rd_T145 l1 x5_1).f2) ((rd_T145 l1 x5_1).f3.f0) _ _ ((rd_T145 l1 x5_1).f3.f1) true _ ?side1 ?side2 ?side3 ?side4 ?side5 ?side6 ?side7 ?side8 A7.out).mono ?_
   (case side1 => exact kc HR412_2 HB)
   (case side2 => exact HC412_2.out)
   (case side3 => exact kc HR412_4 HB)
   (case side4 => exact HC412_4.out)
   (case side5 => exact kc HR413_2 HB)
   (case side6 => exact HC413_2.out)
   (case side7 => exact kc HR413_4 HB)
   (case side8 => exact HC413_4.out)
   rintro e w10 ⟨rfl, hb⟩
   refine ⟨_, rfl, ?_⟩
   replace HB := bs HB hb
   (try clear hb)
   (try clear hb2)
   (try clear hk)
   (try clear hi)
   refine hK.out _ _ ⟨(ox5 HB hw412 :), (ox5 HB hw413 :)⟩ (fun hHeld => ?_)
   clear hK K
   refine nm 25 ?_
   refine pu 9 26 ?_
   refine done_ (done_of HT_.out (by kernel_rfl)) ?_
   try go_wp2
   go_roundg k1
   case measure => have := HK1.out; omega
   case rel => exact ⟨(wrap64 (x5_1 + 1)), rsd, H', ⟨by have := HK1.out; omega⟩, ⟨tb HB⟩⟩
end Go.Proofs.Ytopikhjcbcpiaaa.Q
section
namespace Go.Proofs.Ytopikhjcbcpiaaa.Q
open Go.RowKit Go.Proofs.YtopikhjcbcpiaaaW.PrintWords Go.Proofs.YtopikhjcbcpiaaaX
def inB (a b c : Int) : Bool := decide (b ≤ a ∧ a ≤ c)
theorem l1In_eq (a b c : Int) : spec_l1In.f a b c = some (inB a b c) := by
  unfold spec_l1In.f inB
  by_cases h : a ≥ b
  · rw [if_pos h]; simp; omega
  · rw [if_neg h]; simp; omega
theorem from_eq (a b c : Int) : impl_from.f a b c = some (inB a b c) := by
  unfold impl_from.f inB
  by_cases h : a ≥ b
  · rw [if_pos h]; simp; omega
  · rw [if_neg h]; simp; omega
end Go.Proofs.Ytopikhjcbcpiaaa.Q
end
namespace Go.Proofs.Ytopikhjcbcpiaaa.Q
open Go.RowKit Go.Proofs.YtopikhjcbcpiaaaW.PrintWords Go.Proofs.YtopikhjcbcpiaaaW.PrintLast Go.Proofs.YtopikhjcbcpiaaaW.PrintMore
attribute [local go_sem] max2_int min2_int max_two min_two max_three min_three max_four min_four   -- for this text's walks alone
set_option linter.unusedVariables false
set_option linter.unusedSimpArgs false
def impl_ThreadOk_1.f (k : Nat) (a0_0 : Int) (a0_1 : Int) (a0_2 : Int) : Option (Bool) := (impl_OpOk.f k a0_0 a0_1 a0_2).bind fun t221 => (some (!t221))
theorem impl_ThreadOk_1.mono : ∀ a0 a1 a2 k, LeO (impl_ThreadOk_1.f k a0 a1 a2) (impl_ThreadOk_1.f (k + 1) a0 a1 a2) := by
 intro a0 a1 a2 k
 unfold impl_ThreadOk_1.f
 repeat' first
   | (with_reducible exact impl_OpOk.mono _ _ _ _)
   | (with_reducible exact LeO.refl _)
   | (with_reducible exact LeO.none _)
   | (with_reducible refine LeO.ite ?_ ?_)
   | (with_reducible refine LeO.bind ?_ (fun _ => ?_))
   | exact impl_OpOk.mono _ _ _ _
   | exact LeO.none _
   | refine LeO.ite ?_ ?_
   | refine LeO.bind ?_ (fun _ => ?_)
set_option maxHeartbeats 8000000 in
set_option maxRecDepth 100000 in
theorem impl_ThreadOk_1.calls (k : Nat) (a0_0 : Int) (a0_1 : Int) (a0_2 : Int) (r : Bool) (w : World) (h : impl_ThreadOk_1.f k a0_0 a0_1 a0_2 = some r) :
  Calls Try.prog 84 #[.agg #[.int .i64 a0_0, .int .i64 a0_1, .int .i64 a0_2]] w fun e w' => e = .returned (.bool r) ∧ Below w.heap.size w w' := by
 have hu68 := Try.underlying68
 have HB := Aside0.mk (Below.refl w.heap.size w)
 have H := h
 clear h
 unfold impl_ThreadOk_1.f at H
 obtain ⟨t221, A2, H⟩ := bn H
 try dsimp only at H
 obtain rfl := oin H
 go_enter Try.func84, Try.ntmps84
 go_wp2_with (first | ((with_reducible refine gq 1 rfl ?_); refine bx0 HB (N := 1) (t := 68) ?_; clear HB; intro gb220 w3 BK220 GE220 HB; have hz4 := cs3_ BK220) | ((with_reducible refine gf 53 rfl ?_); refine gL 4 Try.func53 #[.agg #[.int .i64 a0_0, .int .i64 a0_1, .int .i64 a0_2]] ?_; (with_reducible refine (impl_OpOk.calls k a0_0 a0_1 a0_2 t221 _ A2.out).mono ?_); rintro e w5 ⟨rfl, hb⟩; refine ⟨_, rfl, ?_⟩; replace BK220 := bb BK220 hb; replace HB := bs HB hb; (try clear hb)))
 go_ret
 exact ⟨er, tb HB⟩
def impl_MemOk_1.f (k : Nat) (a0_0 : Int) (a0_1 : Int) (l0_2 : List (S166)) (a0_3 : Int) (l0_4 : List Int) : Option (Bool) := (impl_DescOk.f k a0_0 a0_1 l0_2 a0_3 l0_4).bind fun t1105 => (some (!t1105))
theorem impl_MemOk_1.mono : ∀ a0 a1 a2 a3 a4 k, LeO (impl_MemOk_1.f k a0 a1 a2 a3 a4) (impl_MemOk_1.f (k + 1) a0 a1 a2 a3 a4) := by
 intro a0 a1 a2 a3 a4 k
 unfold impl_MemOk_1.f
 repeat' first
   | (with_reducible exact impl_DescOk.mono _ _ _ _ _ _)
   | (with_reducible exact LeO.refl _)
   | (with_reducible exact LeO.none _)
   | (with_reducible refine LeO.ite ?_ ?_)
   | (with_reducible refine LeO.bind ?_ (fun _ => ?_))
   | exact impl_DescOk.mono _ _ _ _ _ _
   | exact LeO.none _
   | refine LeO.ite ?_ ?_
   | refine LeO.bind ?_ (fun _ => ?_)
set_option maxHeartbeats 8000000 in
set_option maxRecDepth 100000 in
theorem impl_MemOk_1.calls (k : Nat) (a0_0 : Int) (a0_1 : Int) (A0_2 : Option Addr) (c0_2 : Nat) (l0_2 : List (S166)) (a0_3 : Int) (A0_4 : Option Addr) (c0_4 : Nat) (l0_4 : List Int) (r : Bool) (w : World) (hr0_2 : Kd.C k166 w A0_2 l0_2.length l0_2) (hc0_2 : l0_2.length ≤ c0_2) (hr0_4 : Kd.C (Kd.int .i64) w A0_4 l0_4.length l0_4) (hc0_4 : l0_4.length ≤ c0_4) (h : impl_MemOk_1.f k a0_0 a0_1 l0_2 a0_3 l0_4 = some r) :
  Calls Try.prog 181 #[.agg #[.int .i64 a0_0, .int .i64 a0_1, .slice A0_2 l0_2.length c0_2, .int .i64 a0_3, .slice A0_4 l0_4.length c0_4]] w fun e w' => e = .returned (.bool r) ∧ Below w.heap.size w w' := by
 have hu145 := Try.underlying145
 have HR0_2 := Aside0.mk hr0_2
 have HC0_2 := Aside0.mk hc0_2
 clear hr0_2 hc0_2
 have HR0_4 := Aside0.mk hr0_4
 have HC0_4 := Aside0.mk hc0_4
 clear hr0_4 hc0_4
 have HB := Aside0.mk (Below.refl w.heap.size w)
 have H := h
 clear h
 unfold impl_MemOk_1.f at H
 obtain ⟨t1105, A2, H⟩ := bn H
 try dsimp only at H
 obtain rfl := oin H
 go_enter Try.func181, Try.ntmps181
 go_wp2_with (first | ((with_reducible refine gq 1 rfl ?_); refine bx0 HB (N := 1) (t := 145) ?_; clear HB; intro gb1104 w3 BK1104 GE1104 HB; have hz4 := cs5_ BK1104) | ((with_reducible refine gf 182 rfl ?_); refine gL 4 Try.func182 #[.agg #[.int .i64 a0_0, .int .i64 a0_1, .slice A0_2 l0_2.length c0_2, .int .i64 a0_3, .slice A0_4 l0_4.length c0_4]] ?_; (with_reducible refine (impl_DescOk.calls k a0_0 a0_1 _ _ l0_2 a0_3 _ _ l0_4 t1105 _ (kc HR0_2 HB) HC0_2.out (kc HR0_4 HB) HC0_4.out A2.out).mono ?_); rintro e w5 ⟨rfl, hb⟩; refine ⟨_, rfl, ?_⟩; replace BK1104 := bb BK1104 hb; replace HB := bs HB hb; (try clear hb)))
 go_ret
 exact ⟨er, tb HB⟩
def spec_l7Copy.f (k : Nat) (l0_0 : List (S141)) (l0_1 : List (S145)) : Option ((List (S141)) × (List (S145))) := (some (([] : List (S141)) : List (S141))).bind fun y1238 => (if y1238.length + l0_0.length < 5864062014805 then ((spec_l6Descs.f k l0_1).bind fun t1244 => (some ((y1238 ++ l0_0), t1244))) else (none))
def spec_l7Copy.T1 : Bool × List (List Nat × List Nat) := (true, [([], []), ([], []), ([1], [1]), ([0, 2], [0, 2]), ([], []), ([4], [4]), ([5, 3], [5]), ([3, 6], [3, 6]), ([7, 6, 0, 1, 2, 3, 4, 5, 6, 7], [7])])
def spec_l7Copy.B1 : List Nat := [0, 0, 2, 7, 0, 16, 63, 127, 255]
theorem spec_l7Copy.tab1 : rtab .any (opsOf Try.f133 1) = spec_l7Copy.T1 := by kernel_rfl
theorem spec_l7Copy.bits1 : waitsOk spec_l7Copy.T1.2 spec_l7Copy.B1 = true := by kernel_rfl
set_option maxHeartbeats 8000000 in
set_option maxRecDepth 100000 in
theorem spec_l7Copy.calls (k : Nat) (A0_0 : Option Addr) (c0_0 : Nat) (l0_0 : List (S141)) (A0_1 : Option Addr) (c0_1 : Nat) (l0_1 : List (S145)) (r1 : List (S141)) (r2 : List (S145)) (w : World) (hr0_0 : Kd.C k141 w A0_0 l0_0.length l0_0) (hc0_0 : l0_0.length ≤ c0_0) (hr0_1 : Kd.C k145 w A0_1 l0_1.length l0_1) (hc0_1 : l0_1.length ≤ c0_1) (h : spec_l7Copy.f k l0_0 l0_1 = some (r1, r2)) :
  Calls Try.prog 133 #[.agg #[.slice A0_0 l0_0.length c0_0, .slice A0_1 l0_1.length c0_1]] w fun e w' => ∃ v0_ v1_ : Value, e = .returned (.agg #[v0_, v1_]) ∧ Kd.R k141 141 w' w.heap.size (fun _ => True) v0_ r1 ∧ Kd.S k145 145 w' w.heap.size (fun _ => True) v1_ r2 ∧ Below w.heap.size w w' := by
 have hu88 := Try.underlying88
 have HR0_0 := Aside0.mk hr0_0
 have HC0_0 := Aside0.mk hc0_0
 clear hr0_0 hc0_0
 have HR0_1 := Aside0.mk hr0_1
 have HC0_1 := Aside0.mk hc0_1
 clear hr0_1 hc0_1
 have HB := Aside0.mk (Below.refl w.heap.size w)
 have H := h
 clear h
 unfold spec_l7Copy.f at H
 obtain ⟨y1238, hy1238⟩ : ∃ y_ : List (S141), y_ = (([] : List (S141))) := ⟨_, rfl⟩
 replace H : (if y1238.length + l0_0.length < 5864062014805 then ((spec_l6Descs.f k l0_1).bind fun t1244 => (some ((y1238 ++ l0_0), t1244))) else (none)) = some (r1, r2) := by first | (rw [hy1238]; with_reducible exact H) | (have H2_ := (Option.bind_some _ _).symm.trans H; rw [hy1238]; with_reducible exact H2_) | (have H2_ := (Option.bind_some _ _).symm.trans H; with_reducible exact H2_) | with_reducible exact H | (rw [hy1238]; exact H) | exact H
 have Ny1238 := Aside0.mk hy1238
 clear hy1238
 by_cases c2 : y1238.length + l0_0.length < 5864062014805
 case neg =>
  rw [if_neg c2] at H
  exact absurd H (by simp)
 
 
 rw [if_pos c2] at H
 have LMc2 := Aside0.mk c2
 clear c2
 obtain ⟨y1241, hy1241⟩ : ∃ y_ : List (S141), y_ = (y1238 ++ l0_0) := ⟨_, rfl⟩
 replace H : ((spec_l6Descs.f k l0_1).bind fun t1244 => (some (y1241, t1244))) = some (r1, r2) := by first | (rw [hy1241]; with_reducible exact H) | (have H2_ := (Option.bind_some _ _).symm.trans H; rw [hy1241]; with_reducible exact H2_) | (have H2_ := (Option.bind_some _ _).symm.trans H; with_reducible exact H2_) | with_reducible exact H | (rw [hy1241]; exact H) | exact H
 have Ny1241 := Aside0.mk hy1241
 clear hy1241
 obtain ⟨t1244, A3, H⟩ := bn H
 try dsimp only at H
 simp only [Option.some.injEq, Prod.mk.injEq] at H
 obtain ⟨rfl, rfl⟩ := H
 go_enter Try.func133, Try.ntmps133
 try go_wp2_with (first | ((with_reducible refine gq 1 rfl ?_); refine bx0 HB (N := 1) (t := 88) ?_; clear HB; intro gb1236 w4 BK1236 GE1236 HB) | ((with_reducible refine gq 2 rfl ?_); refine bx1 HB BK1236 (N := 2) (cs := #[.slice none 0 0, .slice none 0 0]) (t := 88) ?_; clear HB BK1236; intro gb1237 w5 BK1237 GE1237 HB NB1236_1237 NB1237_1236 BK1236))
 replace BK1236 := bd BK1236
 replace BK1237 := bd BK1237
 replace HB := Aside0.mk (below_drew1 HB.out)
 refine start_ (n := 9) (S := fun w' => cS2 gb1236 (.slice A0_0 l0_0.length c0_0) (.slice A0_1 l0_1.length c0_1) w') (ds := []) #[false, false, false, false, false, false, false, false, false] (by kernel_rfl) rfl rfl (ds2_ BK1236) (fun hHeld => ?_); refine with_tabW spec_l7Copy.tab1 spec_l7Copy.bits1 (fun HT_ HW_ => ?_)
 generalize w5.drew = w6 at BK1236 BK1237 HB hHeld ⊢
 refine pu 1 4 ?_; refine pu 4 7 ?_; refine ta 2 5 ?_; refine ta 5 8 ?_
 refine on1 0 (some 3) (fun K hK => ?_)
 refine Kd.R_lit_step k141 _ 141 ?hg (N := 3) ?hd (xs := ([] : List (S141))) (inner := []) (ok := fun _ => True) (okp := fun _ => True) ?hr ?hp (fun _ hk => hk) trivial (Below.refl _ _) (Nat.le_refl _) (by simp) ?_; (case hd => rfl); (case hg => rfl); (case hr => first | (go_simp; done) | (go_simp; rfl)); (case hp => exact (Reps.none _ _))
 intro v1239 w7 ho8 hb hg_ hnew_
 clear hg_ hnew_
 (first | rw [← Ny1238.out] at ho8 | (simp only [Int.reduceToNat] at ho8; rw [← Ny1238.out] at ho8))
 have HO1240 := Aside0.mk (Kd.R_lower ho8 (below_size (tb HB)))
 replace BK1236 := bb BK1236 hb
 replace BK1237 := bb BK1237 hb
 replace HB := bs HB hb
 clear hb ho8
 refine hK.out _ _ (ds2_ BK1236) (fun hHeld => ?_)
 clear hK K
 refine nm 3 ?_
 refine on1 3 (some 6) (fun K hK => ?_)
 refine Kd.R_append_rows_step k141 (w0 := w) w.heap.size (by rfl) (.tmp 3) (.tmp 5) 47 141 (.agg #[(.int .i64 0), (.int .i64 0), (.int .i64 0)]) 24 rfl Try.underlying47 info141 rfl (by decide) (by omega) v1239 y1238 l0_0 _ _ _ (fun _ => True) (fun _ => False) rfl rfl ?aO ?aR (fun _ _ h => h) (fun _ h => h.elim) ?aF ?aB ?aS ?aL ?_
 (case aR => repeat (first | exact (Kd.C_below HR0_0.out HB.out) | (with_reducible refine Kd.C_alloc ?_ _) | (with_reducible refine Kd.C_drewN ?_ _) | (with_reducible refine Kd.C_drew ?_)))
 (case aB => exact (tb HB))
 (case aF => exact (fun _ _ => trivial))
 (case aO => exact (kr HO1240.out))
 (case aS => exact (below_size (tb HB)))
 (case aL => have := LMc2.out; omega)
 intro v1242 w9 ho hb hg hat
 rw [← Ny1241.out] at ho
 replace BK1236 := Aside0.mk (blk_grown (g := gb1236) (o := .cells #[.slice A0_0 l0_0.length c0_0, .slice A0_1 l0_1.length c0_1] 88 (0, 0)) (bk BK1236) hg (Kd.R_ne HO1240.out BK1236.out (by decide)))
 replace BK1237 := Aside0.mk (blk_grown (g := gb1237) (o := .cells #[.slice none 0 0, .slice none 0 0] 88 (0, 0)) (bk BK1237) hg (Kd.R_ne HO1240.out BK1237.out (by decide)))
 replace HB := Aside0.mk (hb)
 have HO1243 := Aside0.mk (ho)
 clear HO1240
 clear ho hb hg hat
 refine hK.out _ _ (ds2_ BK1236) (fun hHeld => ?_)
 clear hK K
 refine nm 6 ?_
 refine on1 6 (some 9) (fun K hK => ?_)
 refine gS Try.func185 #[.slice A0_1 l0_1.length c0_1] ?_
 with_reducible refine (spec_l6Descs.calls k _ _ l0_1 t1244 _ ?side1 ?side2 A3.out).mono ?_
 (case side1 => exact kc HR0_1 HB)
 (case side2 => exact HC0_1.out)
 rintro e w10 ⟨v1245, rfl, ho0, hb⟩
 refine ⟨_, rfl, ?_⟩
 replace HO1243 := rb HO1243 hb
 have HO1246 := Aside0.mk (Kd.S_lower ho0 (below_size (tb HB)))
 replace BK1236 := bb BK1236 hb
 replace BK1237 := bb BK1237 hb
 replace HB := bs HB hb
 (try clear hb)
 (try clear hb2)
 (try clear hk)
 (try clear hi)
 (try clear ho0)
 obtain ⟨Ao11, co11, eo11⟩ := Kd.S_slice HO1246.out
 (first | subst eo11 | (injection eo11 with f1_ f2_ f3_; have f4_ := f1_.symm; have f5_ := f3_.symm; clear f1_ f2_ f3_; subst f4_; subst f5_))
 obtain ⟨Ao12, co12, eo12⟩ := Kd.R_slice HO1243.out
 (first | subst eo12 | (injection eo12 with f1_ f2_ f3_; have f4_ := f1_.symm; have f5_ := f3_.symm; clear f1_ f2_ f3_; subst f4_; subst f5_))
 refine hK.out _ _ (ds2_ BK1236) (fun hHeld => ?_)
 clear hK K
 refine nm 9 ?_
 refine pu 7 10 ?_
 refine one_ (i := 8) (N := none) #[true, true, true, true, true, true, true, true, true] rfl rfl (one_of HT_.out (by kernel_rfl)) (by decide) (fun K hK => ?_)
 have hs13 : w10.cell? ⟨gb1237, 0, none⟩ = some (.slice none 0 0) := cz BK1237 0
 have hfs13 := blk_frozen BK1237.out 0
 have hns13_0 := NB1236_1237.out
 have hms13_0 := NB1237_1236.out
 have hs14 : w10.cell? ⟨gb1237, 1, none⟩ = some (.slice none 0 0) := cz BK1237 1
 have hfs14 := blk_frozen BK1237.out 1
 have hns14_0 := NB1236_1237.out
 have hms14_0 := NB1237_1236.out
 refine skip_ (w1 := ?_) (by rfl) rfl ?_ ?_
 rotate_left
 ·go_simp
  rfl
 refine hK.out _ _ ⟨((cell_far (p := ⟨gb1237, _, none⟩) NB1236_1237.out _).trans (((cell_far (p := ⟨gb1237, _, none⟩) NB1236_1237.out _).trans (hHeld.1)))), ((cell_far (p := ⟨gb1237, _, none⟩) NB1236_1237.out _).trans (((cell_far (p := ⟨gb1237, _, none⟩) NB1236_1237.out _).trans (hHeld.2))))⟩ (fun hHeld => ?_)
 clear hK K
 refine done_ (done_of HT_.out (by kernel_rfl)) ?_
 try go_wp2
 refine bodyPost_ret (results_cell_row rfl _ _ gb1237 88 #[.slice Ao12 y1241.length co12, .slice Ao11 t1244.length co11] (0, 0) _ rfl (bfp2 BK1237) Try.underlying88 rfl (by kernel_rfl)) rfl ?_
 exact ⟨_, _, er, by (with_reducible repeat (first | apply Kd.R_alloc | apply Kd.R_drewN | apply Kd.R_drew)); exact Kd.R_mono (Kd.R_far (p := ⟨gb1237, 1, none⟩) (Kd.R_far (p := ⟨gb1237, 0, none⟩) (Kd.R_types HO1243.out BK1237.out (by decide)) (fun _ hk => hk.2) (.slice Ao12 y1241.length co12)) (fun _ hk => hk.2) (.slice Ao11 t1244.length co11)) (fun _ hk => trivial), by (with_reducible repeat (first | apply Kd.S_alloc | apply Kd.S_drewN | apply Kd.S_drew)); exact Kd.S_mono (Kd.S_far (p := ⟨gb1237, 1, none⟩) (Kd.S_far (p := ⟨gb1237, 0, none⟩) (Kd.S_types HO1246.out BK1237.out (by decide)) (fun _ hk => hk.2) (.slice Ao12 y1241.length co12)) (fun _ hk => hk.2) (.slice Ao11 t1244.length co11)) (fun _ hk => trivial), tb HB⟩
end Go.Proofs.Ytopikhjcbcpiaaa.Q
section
namespace Go.Proofs.Ytopikhjcbcpiaaa.Q
open Go.RowKit Go.Proofs.YtopikhjcbcpiaaaW.PrintWords Go.Proofs.YtopikhjcbcpiaaaW.PrintLast Go.Proofs.YtopikhjcbcpiaaaW.PrintMore
set_option linter.unusedVariables false
def hSep (A B : HP) : HP := fun D W => ∃ D1 D2 : Nat → Prop, (∀ k, D1 k → D k) ∧ (∀ k, D2 k → D k ∧ ¬ D1 k) ∧ A D1 W ∧ B D2 W
section
variable {w0 w W W1 : World} {P : Nat → Prop} {A B : HP} {L : List HP}
theorem Sep.merge {b : Nat} {D : Nat → Prop} (h : Sep b (A :: B :: L) D W) : Sep b (hSep A B :: L) D W := by
  obtain ⟨D1, h1, h2, D2, k1, k2, k3⟩ := h
  refine ⟨fun k => D1 k ∨ D2 k, fun k hk => hk.elim (fun h => h1 k h) (fun h => ⟨(k1 k h).1.1, (k1 k h).2⟩), fun W' hm => ⟨D1, D2, fun k h => .inl h, fun k h => ⟨.inr h, (k1 k h).1.2⟩, h2 W' (fun k h => hm k (.inl h)), k2 W' (fun k h => hm k (.inr h))⟩, k3.mono (fun k hk _ _ => ⟨hk.1.1, fun h => h.elim hk.1.2 hk.2⟩)⟩
theorem St.merge (h : St w0 w P (A :: B :: L) W) : St w0 w P (hSep A B :: L) W := ⟨h.sep.merge, h.below, h.kept, h.le⟩
variable {v0 v2 v4 : Value} {ws : List S141} {ds : List S145} {l2 : List S166} {l4 : List Int} {go n co : Nat}
theorem St.setDesc (h : St w0 w P (hM w0.heap.size v0 (.slice (some ⟨go, 0, none⟩) n co) ws ds :: hR k166 166 w0.heap.size v2 l2 :: hR (Kd.int .i64) 3 w0.heap.size v4 l4 :: L) W) (i : Int) (h0 : 0 ≤ i) (h1 : i < n) (a c e : Int) :
    St w0 w P (hM w0.heap.size v0 (.slice (some ⟨go, 0, none⟩) n co) ws (ds.set i.toNat ⟨a, c, l2, ⟨e, l4⟩⟩) :: L) (W.setCells go (i.toNat * 5) [.int .i64 a, .int .i64 c, v2, .int .i64 e, v4]) := by
  have h' := (h.bring 1 rfl).bring 2 rfl
  obtain ⟨D, hD, hDb, hS⟩ := (show St w0 w P (hM w0.heap.size v0 (.slice (some ⟨go, 0, none⟩) n co) ws ds :: hSep (hR (Kd.int .i64) 3 w0.heap.size v4 l4) (hR k166 166 w0.heap.size v2 l2) :: L) W from (h'.merge).bring 1 rfl).merge.own
  obtain ⟨DM, DN, m1, m2, ⟨hw, hd⟩, D4, D2, n1, n2, r4, r2⟩ := hD
  replace hd := hd
  have hgo : DM go := (Kd.S_R hd).1 go (by simp [Value.ownBlock])
  have hH : Kd.S k145 145 W w0.heap.size (fun k => (DM k ∨ DN k) ∧ ¬ DN k) (.slice (some ⟨go, 0, none⟩) n co) ds := Kd.S_mono hd (fun k hk => ⟨.inl hk, fun hn => (m2 k hn).2 hk⟩)
  obtain ⟨oki, cs, hcl, hM, hcc, hoki, hHH⟩ := Kd.S_lend hH z145 i h0 h1
  have hlen : cs.length = 5 := hcl
  have hx := k145_mkM W w0.heap.size DN (⟨a, c, l2, ⟨e, l4⟩⟩ : S145) (v2 := v2) (v4 := v4) (Kd.R_mono (hR_out r2) (fun k hk => (n2 k hk).1)) (Kd.R_mono (hR_out r4) (fun k hk => n1 k hk))
  have hcs : cs.take 0 ++ [.int .i64 a, .int .i64 c, v2, .int .i64 e, v4] ++ cs.drop (0 + ([.int .i64 a, .int .i64 c, v2, .int .i64 e, v4] : List Value).length) = [.int .i64 a, .int .i64 c, v2, .int .i64 e, v4] := by
    rw [List.take_zero, List.nil_append, List.drop_eq_nil_of_le (by simp [hlen]), List.append_nil]
  obtain ⟨hset, hg⟩ := Kd.S_seg (okg := DN) hHH h0 h1 (seg := [.int .i64 a, .int .i64 c, v2, .int .i64 e, v4]) (j := 0) (by show 0 + 5 ≤ 5; omega) (x' := ⟨a, c, l2, ⟨e, l4⟩⟩) (okp := DN) (by rw [hcs]; exact hx) (fun k hk => .inr hk) (fun k hk => ⟨.inr hk, fun he => (m2 k hk).2 (he ▸ hgo)⟩)
  have hset' : Kd.S k145 145 (W.setCells go (i.toNat * 5) [.int .i64 a, .int .i64 c, v2, .int .i64 e, v4]) w0.heap.size (fun k => DM k ∨ DN k) (.slice (some ⟨go, 0, none⟩) n co) (ds.set i.toNat ⟨a, c, l2, ⟨e, l4⟩⟩) := hset
  have hg' : W.grownBy (W.setCells go (i.toNat * 5) [.int .i64 a, .int .i64 c, v2, .int .i64 e, v4]) (some go) := hg
  have hkD : Kept W (W.setCells go (i.toNat * 5) [.int .i64 a, .int .i64 c, v2, .int .i64 e, v4]) D := Kept.of_grown hg' (Kept.refl W D) (fun k hk => .inl (by injection hk with hk; subst hk; exact m1 _ hgo))
  refine hS _ _ (cl_M _ _ _ _ _) (h.below.grown hg' h.ge (fun k hk => by injection hk with hk; subst hk; exact hDb _ (m1 _ hgo))) hkD ⟨?_, ?_⟩
  · have hw' : Kd.R k141 141 W w0.heap.size (fun k => some k = v0.ownBlock) v0 ws := Kd.R_tight rfl hw
    have hne : ∀ k, some k = v0.ownBlock → some k ≠ some go := fun k hk he => by
      injection he with he
      subst he
      obtain ⟨c1, e1⟩ := Kd.R_typed hw' k hk.symm
      obtain ⟨c2, e2⟩ := Kd.S_typed hd k (by simp [Value.ownBlock])
      rw [e1] at e2
      injection e2 with e2
      injection e2 with _ e3
      exact absurd e3 (by decide)
    exact Kd.R_mono (Kd.R_grown hw' hg' hne) (fun k hk => .inl (m1 k (hw.1 k hk.symm)))
  · exact Kd.S_mono hset' (fun k hk => .inl (hk.elim (m1 k) (fun hn => (m2 k hn).1)))
end
section
variable {P : Program} {ops : Array Oper} {o : Oper} {a : Act} {Q : Exit → Act → World → Prop} {Kc : Act → World → Prop} {α : Type} {w0 w W : World} {PP : Nat → Prop} {L : List HP}
theorem St.lit_step (S : St w0 w PP L W) (d : Kd α) (e : Nat) (hw : Region.wanted o (yielded ops a.tmps) = true) {N : Tmp} (hd : o.dst = some N) {xs : List α} {inner : List Value}
    (hrun : (execOp a.eval o).run P W = .ok (.value (.slice (some ⟨W.heap.size, 0, none⟩) xs.length xs.length)) (W.alloc (.cells inner.toArray e)))
    (hrep : Reps (d.M W W.heap.size (fun _ => True)) d.sz xs inner) (hm : xs.length ≤ 9223372036854775807)
    (h : ∀ v1 w1, St w0 w PP (hR d e w0.heap.size v1 xs :: L) w1 → Kc (a.put o.dst v1) w1) : if Region.wanted o (yielded ops a.tmps) = true then Oper.wp P o a W Kc Q else Kc (a.put o.dst undef) W :=
  Kd.R_lit_step d W.heap.size e hw hd (ok := fun _ => True) (okp := fun _ => True) hrun hrep (fun _ hk => hk) trivial (Below.refl _ _) (Nat.le_refl _) hm (fun v1 w1 h1 hb _ _ => h v1 w1 (S.madeR h1 hb))
theorem St.append_step {v : Value} {xs : List α} {d : Kd α} {e : Nat} (S : St w0 w PP (hR d e w0.heap.size v xs :: L) W) {Rr : α → List Value → Prop} (hw : Region.wanted o (yielded ops a.tmps) = true) (s x : Operand) (t : TypeId) (z : Value) (bytes : Nat)
    (ho : o.op = .call { callee := .builtin .append, args := #[s, x], argTypes := #[t, t] })
    (ht : P.underlying t = some (.slice e)) (hinfo : (P.info? e).map (fun i => (i.zero, i.size, i.bytes)) = some (some z, d.sz, bytes)) (hz : z.cells.size = d.sz) (hs0 : 0 < d.sz) (hb0 : 0 < bytes)
    (ys : List α) (A : Option Addr) (m c : Nat) (hs : a.eval s = v) (hx : a.eval x = .slice A m c)
    (HR : ReadsRow Rr d.sz W A m ys) (hKM : ∀ x cs, Rr x cs → d.M W w0.heap.size (fun _ => False) x cs) (hl : (xs.length + m) * bytes ≤ 140737488355328)
    (h : ∀ v1 w1, St w0 w PP (hR d e w0.heap.size v1 (xs ++ ys) :: L) w1 → Kc (a.put o.dst v1) w1) : if Region.wanted o (yielded ops a.tmps) = true then Oper.wp P o a W Kc Q else Kc (a.put o.dst undef) W := by
  obtain ⟨D, hD, hDb, hS⟩ := S.own
  refine Kd.R_append_rows_step d (w0 := w0) w0.heap.size hw s x t e z bytes ho ht hinfo hz hs0 hb0 v xs ys A m c (fun k => D k ∨ W.heap.size ≤ k) (fun _ => False) hs hx (Kd.R_mono (hR_out hD) (fun k hk => .inl hk)) HR hKM (fun _ h => h.elim) (fun k hk => .inr hk) S.below S.ge hl ?_
  intro v1 w1 ho1 hb1 hg _
  exact h v1 w1 (hS w1 _ (cl_R _ _ _ _ _) hb1 (Kept.of_grown hg (Kept.refl W D) (fun k hk => .inl ((hR_out hD).1 k hk))) ho1)
end
end Go.Proofs.Ytopikhjcbcpiaaa.Q
end
