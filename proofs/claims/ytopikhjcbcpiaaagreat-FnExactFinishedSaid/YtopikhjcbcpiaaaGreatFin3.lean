/- Part 3 of the steps by which the law is shown: what each function of the program, of the reference and of the law computes. No condition. -/
import Derived.Test.YtopikhjcbcpiaaaGreatFin0
import Derived.Test.YtopikhjcbcpiaaaGreatFin1
import Derived.Test.YtopikhjcbcpiaaaGreatFin2
namespace Go.Proofs.YtopikhjcbcpiaaaGreat.Q
open Go.RowKit Go.Proofs.YtopikhjcbcpiaaaGreatW.PrintWords Go.Proofs.YtopikhjcbcpiaaaGreatW.PrintLast Go.Proofs.YtopikhjcbcpiaaaGreatW.PrintMore
attribute [local go_sem] max2_int min2_int max_two min_two max_three min_three max_four min_four   -- for this text's walks alone
set_option linter.unusedVariables false
set_option linter.unusedSimpArgs false
def laws_szRes.f (a0_0 : Int) (l0_1 : List Int) (a1 : Int) : Option (Int) := (laws_szIntS.f l0_1 a1).bind fun t102 => (if t102 < 0 then (some (-1)) else (some t102))
set_option maxHeartbeats 8000000 in
set_option maxRecDepth 100000 in
theorem laws_szRes.calls (a0_0 : Int) (A0_1 : Option Addr) (c0_1 : Nat) (l0_1 : List Int) (a1 : Int) (r : Int) (w : World) (hr0_1 : Kd.C (Kd.int .i64) w A0_1 l0_1.length l0_1) (hc0_1 : l0_1.length ≤ c0_1) (h : laws_szRes.f a0_0 l0_1 a1 = some r) :
  Calls Tryz.prog 173 #[.agg #[.int .i64 a0_0, .slice A0_1 l0_1.length c0_1], .int .i64 a1] w fun e w' => e = .returned (.int .i64 r) ∧ Below w.heap.size w w' := by
 have hu174 := Tryz.underlying174
 have HR0_1 := Aside0.mk hr0_1
 have HC0_1 := Aside0.mk hc0_1
 clear hr0_1 hc0_1
 have HB := Aside0.mk (Below.refl w.heap.size w)
 have H := h
 clear h
 unfold laws_szRes.f at H
 obtain ⟨t102, A3, H⟩ := bn H
 try dsimp only at H
 revert H; refine icd (fun c4b0 H => ?pos) fun c4b0 H => ?_
 case pos =>
  obtain rfl := oin H
  go_enter Tryz.func173, Tryz.ntmps173
  go_wp2_with (first | ((with_reducible refine gq 2 rfl ?_); refine bx0 HB (N := 2) (t := 174) ?_; clear HB; intro gb101 w5 BK101 GE101 HB; have hz6 := cs2_ BK101) | ((with_reducible refine gf 83 rfl ?_); refine gL 8 Tryz.func83 #[.slice A0_1 l0_1.length c0_1, .int .i64 a1] ?_; (with_reducible refine (laws_szIntS.calls _ _ l0_1 a1 t102 _ (kc HR0_1 HB) HC0_1.out A3.out).mono ?_); rintro e w' ⟨rfl, ⟨nd, rfl⟩⟩; refine ⟨_, rfl, ?_⟩))
  go_ret
  exact ⟨er, tb HB⟩
 obtain rfl := oin H
 go_enter Tryz.func173, Tryz.ntmps173
 go_wp2_with (first | ((with_reducible refine gq 2 rfl ?_); refine bx0 HB (N := 2) (t := 174) ?_; clear HB; intro gb101 w7 BK101 GE101 HB; have hz8 := cs2_ BK101) | ((with_reducible refine gf 83 rfl ?_); refine gL 8 Tryz.func83 #[.slice A0_1 l0_1.length c0_1, .int .i64 a1] ?_; (with_reducible refine (laws_szIntS.calls _ _ l0_1 a1 t102 _ (kc HR0_1 HB) HC0_1.out A3.out).mono ?_); rintro e w' ⟨rfl, ⟨nd, rfl⟩⟩; refine ⟨_, rfl, ?_⟩))
 go_ret
 exact ⟨er, tb HB⟩
def laws_szThread.f (l0_0 : List (S173)) (a0_1 : Int) (a0_2 : Bool) (l0_3 : List (S224)) (l0_4 : List (S226)) (a1 : Int) : Option (Int) := (laws_szOpS.f l0_0 a1).bind fun t112 => (if t112 < 0 then (some (-1)) else ((laws_szPairS.f l0_3 t112).bind fun t113 => (if t113 < 0 then (some (-1)) else ((laws_szHelpS.f l0_4 t113).bind fun t114 => (if t114 < 0 then (some (-1)) else (some t114))))))
set_option maxHeartbeats 8000000 in
set_option maxRecDepth 100000 in
theorem laws_szThread.calls (A0_0 : Option Addr) (c0_0 : Nat) (l0_0 : List (S173)) (a0_1 : Int) (a0_2 : Bool) (A0_3 : Option Addr) (c0_3 : Nat) (l0_3 : List (S224)) (A0_4 : Option Addr) (c0_4 : Nat) (l0_4 : List (S226)) (a1 : Int) (r : Int) (w : World) (hr0_0 : Kd.C k173 w A0_0 l0_0.length l0_0) (hc0_0 : l0_0.length ≤ c0_0) (hr0_3 : Kd.C k224 w A0_3 l0_3.length l0_3) (hc0_3 : l0_3.length ≤ c0_3) (hr0_4 : Kd.C k226 w A0_4 l0_4.length l0_4) (hc0_4 : l0_4.length ≤ c0_4) (h : laws_szThread.f l0_0 a0_1 a0_2 l0_3 l0_4 a1 = some r) :
  Calls Tryz.prog 137 #[.agg #[.slice A0_0 l0_0.length c0_0, .int .i64 a0_1, .bool a0_2, .slice A0_3 l0_3.length c0_3, .slice A0_4 l0_4.length c0_4], .int .i64 a1] w fun e w' => e = .returned (.int .i64 r) ∧ Below w.heap.size w w' := by
 have hu171 := Tryz.underlying171
 have HR0_0 := Aside0.mk hr0_0
 have HC0_0 := Aside0.mk hc0_0
 clear hr0_0 hc0_0
 have HR0_3 := Aside0.mk hr0_3
 have HC0_3 := Aside0.mk hc0_3
 clear hr0_3 hc0_3
 have HR0_4 := Aside0.mk hr0_4
 have HC0_4 := Aside0.mk hc0_4
 clear hr0_4 hc0_4
 have HB := Aside0.mk (Below.refl w.heap.size w)
 have H := h
 clear h
 unfold laws_szThread.f at H
 obtain ⟨t112, A3, H⟩ := bn H
 try dsimp only at H
 revert H; refine icd (fun c4b0 H => ?pos) fun c4b0 H => ?_
 case pos =>
  obtain rfl := oin H
  go_enter Tryz.func137, Tryz.ntmps137
  go_wp2_with (first | ((with_reducible refine gq 2 rfl ?_); refine bx0 HB (N := 2) (t := 171) ?_; clear HB; intro gb111 w5 BK111 GE111 HB; have hz6 := cs5_ BK111) | ((with_reducible refine gf 170 rfl ?_); refine gL 8 Tryz.func170 #[.slice A0_0 l0_0.length c0_0, .int .i64 a1] ?_; (with_reducible refine (laws_szOpS.calls _ _ l0_0 a1 t112 _ (kc HR0_0 HB) HC0_0.out A3.out).mono ?_); rintro e w' ⟨rfl, ⟨nd, rfl⟩⟩; refine ⟨_, rfl, ?_⟩))
  go_ret
  exact ⟨er, tb HB⟩
 obtain ⟨t113, A7, H⟩ := bn H
 try dsimp only at H
 revert H; refine icd (fun c8b0 H => ?pos) fun c8b0 H => ?_
 case pos =>
  obtain rfl := oin H
  go_enter Tryz.func137, Tryz.ntmps137
  go_wp2_with (first | ((with_reducible refine gq 2 rfl ?_); refine bx0 HB (N := 2) (t := 171) ?_; clear HB; intro gb111 w9 BK111 GE111 HB; have hz10 := cs5_ BK111) | ((with_reducible refine gf 170 rfl ?_); refine gL 8 Tryz.func170 #[.slice A0_0 l0_0.length c0_0, .int .i64 a1] ?_; (with_reducible refine (laws_szOpS.calls _ _ l0_0 a1 t112 _ (kc HR0_0 HB) HC0_0.out A3.out).mono ?_); rintro e w' ⟨rfl, ⟨nd, rfl⟩⟩; refine ⟨_, rfl, ?_⟩) | ((with_reducible refine gf 171 rfl ?_); refine gL 14 Tryz.func171 #[.slice A0_3 l0_3.length c0_3, .int .i64 t112] ?_; (with_reducible refine (laws_szPairS.calls _ _ l0_3 t112 t113 _ ?side1 HC0_3.out A7.out).mono ?_); (case side1 => repeat (first | exact (Kd.C_below HR0_3.out (tb HB)) | (with_reducible refine Kd.C_alloc ?_ _) | (with_reducible refine Kd.C_drewN ?_ _) | (with_reducible refine Kd.C_drew ?_))); rintro e w' ⟨rfl, ⟨nd, rfl⟩⟩; refine ⟨_, rfl, ?_⟩))
  go_ret
  exact ⟨er, tb HB⟩
 obtain ⟨t114, A11, H⟩ := bn H
 try dsimp only at H
 revert H; refine icd (fun c12b0 H => ?pos) fun c12b0 H => ?_
 case pos =>
  obtain rfl := oin H
  go_enter Tryz.func137, Tryz.ntmps137
  go_wp2_with (first | ((with_reducible refine gq 2 rfl ?_); refine bx0 HB (N := 2) (t := 171) ?_; clear HB; intro gb111 w13 BK111 GE111 HB; have hz14 := cs5_ BK111) | ((with_reducible refine gf 170 rfl ?_); refine gL 8 Tryz.func170 #[.slice A0_0 l0_0.length c0_0, .int .i64 a1] ?_; (with_reducible refine (laws_szOpS.calls _ _ l0_0 a1 t112 _ (kc HR0_0 HB) HC0_0.out A3.out).mono ?_); rintro e w' ⟨rfl, ⟨nd, rfl⟩⟩; refine ⟨_, rfl, ?_⟩) | ((with_reducible refine gf 171 rfl ?_); refine gL 14 Tryz.func171 #[.slice A0_3 l0_3.length c0_3, .int .i64 t112] ?_; (with_reducible refine (laws_szPairS.calls _ _ l0_3 t112 t113 _ ?side1 HC0_3.out A7.out).mono ?_); (case side1 => repeat (first | exact (Kd.C_below HR0_3.out (tb HB)) | (with_reducible refine Kd.C_alloc ?_ _) | (with_reducible refine Kd.C_drewN ?_ _) | (with_reducible refine Kd.C_drew ?_))); rintro e w' ⟨rfl, ⟨nd, rfl⟩⟩; refine ⟨_, rfl, ?_⟩) | ((with_reducible refine gf 172 rfl ?_); refine gL 20 Tryz.func172 #[.slice A0_4 l0_4.length c0_4, .int .i64 t113] ?_; (with_reducible refine (laws_szHelpS.calls _ _ l0_4 t113 t114 _ ?side1 HC0_4.out A11.out).mono ?_); (case side1 => repeat (first | exact (Kd.C_below HR0_4.out (tb HB)) | (with_reducible refine Kd.C_alloc ?_ _) | (with_reducible refine Kd.C_drewN ?_ _) | (with_reducible refine Kd.C_drew ?_))); rintro e w' ⟨rfl, ⟨nd, rfl⟩⟩; refine ⟨_, rfl, ?_⟩))
  go_ret
  exact ⟨er, tb HB⟩
 obtain rfl := oin H
 go_enter Tryz.func137, Tryz.ntmps137
 go_wp2_with (first | ((with_reducible refine gq 2 rfl ?_); refine bx0 HB (N := 2) (t := 171) ?_; clear HB; intro gb111 w15 BK111 GE111 HB; have hz16 := cs5_ BK111) | ((with_reducible refine gf 170 rfl ?_); refine gL 8 Tryz.func170 #[.slice A0_0 l0_0.length c0_0, .int .i64 a1] ?_; (with_reducible refine (laws_szOpS.calls _ _ l0_0 a1 t112 _ (kc HR0_0 HB) HC0_0.out A3.out).mono ?_); rintro e w' ⟨rfl, ⟨nd, rfl⟩⟩; refine ⟨_, rfl, ?_⟩) | ((with_reducible refine gf 171 rfl ?_); refine gL 14 Tryz.func171 #[.slice A0_3 l0_3.length c0_3, .int .i64 t112] ?_; (with_reducible refine (laws_szPairS.calls _ _ l0_3 t112 t113 _ ?side1 HC0_3.out A7.out).mono ?_); (case side1 => repeat (first | exact (Kd.C_below HR0_3.out (tb HB)) | (with_reducible refine Kd.C_alloc ?_ _) | (with_reducible refine Kd.C_drewN ?_ _) | (with_reducible refine Kd.C_drew ?_))); rintro e w' ⟨rfl, ⟨nd, rfl⟩⟩; refine ⟨_, rfl, ?_⟩) | ((with_reducible refine gf 172 rfl ?_); refine gL 20 Tryz.func172 #[.slice A0_4 l0_4.length c0_4, .int .i64 t113] ?_; (with_reducible refine (laws_szHelpS.calls _ _ l0_4 t113 t114 _ ?side1 HC0_4.out A11.out).mono ?_); (case side1 => repeat (first | exact (Kd.C_below HR0_4.out (tb HB)) | (with_reducible refine Kd.C_alloc ?_ _) | (with_reducible refine Kd.C_drewN ?_ _) | (with_reducible refine Kd.C_drew ?_))); rintro e w' ⟨rfl, ⟨nd, rfl⟩⟩; refine ⟨_, rfl, ?_⟩))
 go_ret
 exact ⟨er, tb HB⟩
def laws_szRows.f (l0_0 : List Int) (a0_1 : Int) (a1 : Int) : Option (Int) := (laws_szIntS.f l0_0 a1).bind fun t122 => (if t122 < 0 then (some (-1)) else (some t122))
set_option maxHeartbeats 8000000 in
set_option maxRecDepth 100000 in
theorem laws_szRows.calls (A0_0 : Option Addr) (c0_0 : Nat) (l0_0 : List Int) (a0_1 : Int) (a1 : Int) (r : Int) (w : World) (hr0_0 : Kd.C (Kd.int .i64) w A0_0 l0_0.length l0_0) (hc0_0 : l0_0.length ≤ c0_0) (h : laws_szRows.f l0_0 a0_1 a1 = some r) :
  Calls Tryz.prog 84 #[.agg #[.slice A0_0 l0_0.length c0_0, .int .i64 a0_1], .int .i64 a1] w fun e w' => e = .returned (.int .i64 r) ∧ Below w.heap.size w w' := by
 have hu66 := Tryz.underlying66
 have HR0_0 := Aside0.mk hr0_0
 have HC0_0 := Aside0.mk hc0_0
 clear hr0_0 hc0_0
 have HB := Aside0.mk (Below.refl w.heap.size w)
 have H := h
 clear h
 unfold laws_szRows.f at H
 obtain ⟨t122, A3, H⟩ := bn H
 try dsimp only at H
 revert H; refine icd (fun c4b0 H => ?pos) fun c4b0 H => ?_
 case pos =>
  obtain rfl := oin H
  go_enter Tryz.func84, Tryz.ntmps84
  go_wp2_with (first | ((with_reducible refine gq 2 rfl ?_); refine bx0 HB (N := 2) (t := 66) ?_; clear HB; intro gb121 w5 BK121 GE121 HB; have hz6 := cs2_ BK121) | ((with_reducible refine gf 83 rfl ?_); refine gL 8 Tryz.func83 #[.slice A0_0 l0_0.length c0_0, .int .i64 a1] ?_; (with_reducible refine (laws_szIntS.calls _ _ l0_0 a1 t122 _ (kc HR0_0 HB) HC0_0.out A3.out).mono ?_); rintro e w' ⟨rfl, ⟨nd, rfl⟩⟩; refine ⟨_, rfl, ?_⟩))
  go_ret
  exact ⟨er, tb HB⟩
 obtain rfl := oin H
 go_enter Tryz.func84, Tryz.ntmps84
 go_wp2_with (first | ((with_reducible refine gq 2 rfl ?_); refine bx0 HB (N := 2) (t := 66) ?_; clear HB; intro gb121 w7 BK121 GE121 HB; have hz8 := cs2_ BK121) | ((with_reducible refine gf 83 rfl ?_); refine gL 8 Tryz.func83 #[.slice A0_0 l0_0.length c0_0, .int .i64 a1] ?_; (with_reducible refine (laws_szIntS.calls _ _ l0_0 a1 t122 _ (kc HR0_0 HB) HC0_0.out A3.out).mono ?_); rintro e w' ⟨rfl, ⟨nd, rfl⟩⟩; refine ⟨_, rfl, ?_⟩))
 go_ret
 exact ⟨er, tb HB⟩
def laws_toWordS.l0 : Nat → List (S207) → List (S39) → Int → Option ((List (S39)))
 | 0, _, _, _ => none
 | k + 1, x0, x3, x4 => if x4 < (x0.length : Int) then (if 0 ≤ x4 then ((laws_toWord.f ((rd_T207 x0 x4).f0) ((rd_T207 x0 x4).f1) ((rd_T207 x0 x4).f2)).bind fun bt238 => (if x4 < (x3.length : Int) then (laws_toWordS.l0 k x0 (x3.set (x4 : Int).toNat (⟨bt238.1, bt238.2.1, bt238.2.2⟩ : S39)) (wrap64 (x4 + 1))) else (none))) else (none)) else (some x3)
def laws_toWordS.f (k : Nat) (l0 : List (S207)) : Option ((List (S39))) := if 0 ≤ (l0.length : Int) then (if ((l0.length : Int) : Int).toNat ≤ 11728124029610 then (laws_toWordS.l0 k l0 (List.replicate ((l0.length : Int) : Int).toNat z39) 0) else (none)) else (none)
set_option maxHeartbeats 8000000 in
set_option maxRecDepth 100000 in
theorem laws_toWordS.calls (k : Nat) (A0 : Option Addr) (c0 : Nat) (l0 : List (S207)) (r : List (S39)) (w : World) (hr0 : Kd.C k207 w A0 l0.length l0) (hc0 : l0.length ≤ c0) (h : laws_toWordS.f k l0 = some r) :
  Calls Tryz.prog 144 #[.slice A0 l0.length c0] w fun e w' => ∃ v0_ : Value, e = .returned (v0_) ∧ Kd.R k39 39 w' w.heap.size (fun _ => True) v0_ r ∧ Below w.heap.size w w' := by
 have hu207 := Tryz.underlying207
 have hu39 := Tryz.underlying39
 have HR0 := Aside0.mk hr0
 have HC0 := Aside0.mk hc0
 clear hr0 hc0
 have HB := Aside0.mk (Below.refl w.heap.size w)
 have H := h
 clear h
 unfold laws_toWordS.f at H
 obtain ⟨c2b0, c2b1, H⟩ := itb H
 obtain ⟨c3b0, c3b1, H⟩ := itb H
 obtain ⟨y234, hy234⟩ : ∃ y_ : List (S39), y_ = (List.replicate ((l0.length : Int) : Int).toNat z39) := ⟨_, rfl⟩
 replace H : (laws_toWordS.l0 k l0 y234 0) = some r := by first | (rw [hy234]; with_reducible exact H) | (have H2_ := (Option.bind_some _ _).symm.trans H; rw [hy234]; with_reducible exact H2_) | (have H2_ := (Option.bind_some _ _).symm.trans H; with_reducible exact H2_) | with_reducible exact H | (rw [hy234]; exact H) | exact H
 have Ny234 := Aside0.mk hy234
 clear hy234
 have H' := Aside0.mk H
 clear H
 go_enter Tryz.func144, Tryz.ntmps144
 go_wp2_with (first | ((with_reducible refine gq 7 rfl ?_); refine Kd.R_make k39 _ 39 rfl (N := 7) rfl 24 _ _ rfl (l0.length : Int) rfl rfl Tryz.underlying24 (.agg #[(.int .i64 0), (.int .i64 0), (.int .i64 0)]) 24 info39 rfl (by decide) (by omega) z39 (ok := fun _ => True) (okp := fun _ => True) (k39_mkM _ _ _ z39 ) (fun _ hk => hk) trivial (od) (Nat.le_trans (Nat.mul_le_mul_right _ (od : (l0.length : Int).toNat ≤ 11728124029610)) (by omega)) (Below.refl _ _) (Nat.le_refl _) ?_; intro v235 w4 ho5 hb hg_ hnew_; clear hg_ hnew_; (first | rw [← Ny234.out] at ho5 | (simp only [Int.reduceToNat] at ho5; rw [← Ny234.out] at ho5)); have HO236 := Aside0.mk (Kd.R_lower ho5 (below_size (tb HB))); replace HB := bs HB hb; clear hb ho5))
 go_loopg [4] k (fun kq v4 w' => ∃ (x3_1 : List (S39)) (x4_1 : Int), v4 = .int .i64 x4_1 ∧ Aside0 (laws_toWordS.l0 kq l0 x3_1 x4_1 = some r) ∧ Aside0 (kq ≤ k) ∧ Aside0 (Kd.R k39 39 w' w.heap.size (fun _ => True) v235 x3_1) ∧ Aside0 (Below w.heap.size w w'))
 case atStart => exact ⟨(y234), (0), rsd, H', ⟨Nat.le_refl _⟩, ⟨kr HO236.out⟩, ⟨tb HB⟩⟩
 case round =>
  clear H'
  obtain ⟨x3_1, x4_1, rfl, HA, HK1, HO_3, HB⟩ := hrel
  cases gk with
  | zero => exact absurd HA.out (by simp [laws_toWordS.l0])
  | succ k1 =>
   have H := HA.out
   clear HA
   simp only [laws_toWordS.l0] at H
   revert H; refine icd (fun c6b0 H => ?_) fun c6b0 H => ?neg
   case neg =>
    obtain rfl := oin H
    go_wp2
    go_ret
    exact ⟨_, er, kr HO_3.out, tb HB⟩
   obtain ⟨c7b0, H⟩ := itd H
   obtain ⟨⟨t238, t239, t240⟩, A8, H⟩ := bn H
   try dsimp only at H
   obtain ⟨c9b0, H⟩ := itd H
   obtain ⟨y241, hy241⟩ : ∃ y_ : List (S39), y_ = (x3_1.set (x4_1 : Int).toNat (⟨t238, t239, t240⟩ : S39)) := ⟨_, rfl⟩
   replace H : (laws_toWordS.l0 k1 l0 y241 (wrap64 (x4_1 + 1))) = some r := by first | (rw [hy241]; with_reducible exact H) | (have H2_ := (Option.bind_some _ _).symm.trans H; rw [hy241]; with_reducible exact H2_) | (have H2_ := (Option.bind_some _ _).symm.trans H; with_reducible exact H2_) | with_reducible exact H | (rw [hy241]; exact H) | exact H
   have Ny241 := Aside0.mk hy241
   clear hy241
   have H' := Aside0.mk H
   clear H
   have p237 : 0 ≤ (x4_1 : Int) := od
   have q237 : x4_1 < (l0.length : Int) := od
   obtain ⟨ad237, e237, hx237⟩ := att207 HR0.out x4_1 p237 q237
   cases e237
   replace hx237 := ox3 HB hx237
   replace p237 := eq_true p237
   replace q237 := eq_true q237
   go_wp2_with (first | ((with_reducible refine gf 174 rfl ?_); refine gL 20 Tryz.func174 #[.agg #[.int .i64 ((rd_T207 l0 x4_1).f0), .int .i64 ((rd_T207 l0 x4_1).f1), .int .i64 ((rd_T207 l0 x4_1).f2)]] ?_; (with_reducible refine (laws_toWord.calls ((rd_T207 l0 x4_1).f0) ((rd_T207 l0 x4_1).f1) ((rd_T207 l0 x4_1).f2) t238 t239 t240 _ A8.out).mono ?_); rintro e w11 ⟨rfl, hb⟩; refine ⟨_, rfl, ?_⟩; replace HO_3 := rb HO_3 hb; replace HB := bs HB hb; (try clear hb); have p10 : 0 ≤ (x4_1 : Int) := od; have q10 : (x4_1 : Int) < ((x3_1.length : Int) : Int) := od; obtain ⟨go10, co10, eo10, gb10, gl10, cl10, HG10⟩ := Kd.R_form HO_3.out (by omega); (first | cases eo10 | (injection eo10 with ea_ en_ ec_; (first | subst ea_ | (injection ea_ with ea_; subst ea_)); subst ec_; clear en_)); have GB10 := Aside0.mk gb10; have GG10 := Aside0.mk HG10; clear gb10 gl10 HG10; obtain ⟨ce10, hcl10, hM10, hcc10, hfr10⟩ := Kd.R_elem HO_3.out z39 (x4_1 : Int) p10 q10; obtain rfl := k39_openM hM10; have hx10_0 : w11.cell? ⟨go10, (x4_1 : Int).toNat * 3, none⟩ = some (.int .i64 ((rd_T39 x3_1 x4_1).f0)) := hcc10 0 _ rfl; have hx10_1 : w11.cell? ⟨go10, (x4_1 : Int).toNat * 3 + 1, none⟩ = some (.int .i64 ((rd_T39 x3_1 x4_1).f1)) := hcc10 1 _ rfl; have hx10_2 : w11.cell? ⟨go10, (x4_1 : Int).toNat * 3 + 2, none⟩ = some (.int .i64 ((rd_T39 x3_1 x4_1).f2)) := hcc10 2 _ rfl; have hf10_0 : w11.frozen? ⟨go10, (x4_1 : Int).toNat * 3, none⟩ = false := hfr10 0; have hf10_1 : w11.frozen? ⟨go10, (x4_1 : Int).toNat * 3 + 1, none⟩ = false := hfr10 1; have hf10_2 : w11.frozen? ⟨go10, (x4_1 : Int).toNat * 3 + 2, none⟩ = false := hfr10 2; clear hcl10 hcc10 hfr10 hM10; replace p10 := eq_true p10; replace q10 := eq_true q10; have HX12 := Aside0.mk (show Kd.R k39 39 w11 w.heap.size (fun _ => True) (.slice (some ⟨go10, 0, none⟩) x3_1.length co10) x3_1 from (kr HO_3.out)); obtain ⟨ce12, hcl12, hM12, hcc12, hfr12⟩ := Kd.R_elem HX12.out z39 (x4_1 : Int) (od) (by have h_ : (x4_1 : Int) < ((x3_1.length : Int) : Int) := od; first | exact h_ | (have e_ := (Kd.R_reads' HO_3.out).1; omega) | simpa using h_); obtain rfl := k39_openM hM12; have HP12 := Kd.R_seg HX12.out (x4_1 : Int) (od) (by have h_ : (x4_1 : Int) < ((x3_1.length : Int) : Int) := od; first | exact h_ | (have e_ := (Kd.R_reads' HO_3.out).1; omega) | simpa using h_) (seg := [.int .i64 t238, .int .i64 t239, .int .i64 t240]) (j := 0) hcl12 hcc12 (show 3 ≤ 3 from by decide) (x' := (⟨t238, t239, t240⟩ : S39)) (k39_mkM _ _ _ (⟨t238, t239, t240⟩ : S39) ) (fun _ hk => hk); have hx12_0 := hcc12 0 _ rfl; (try simp only [show (k39).sz = 3 from rfl, Nat.mul_one, Nat.add_zero] at hx12_0); have hf12_0 := hfr12 0; (try simp only [show (k39).sz = 3 from rfl, Nat.mul_one, Nat.add_zero] at hf12_0); have hx12_1 := hcc12 1 _ rfl; (try simp only [show (k39).sz = 3 from rfl, Nat.mul_one, Nat.add_zero] at hx12_1); have hf12_1 := hfr12 1; (try simp only [show (k39).sz = 3 from rfl, Nat.mul_one, Nat.add_zero] at hf12_1); have hx12_2 := hcc12 2 _ rfl; (try simp only [show (k39).sz = 3 from rfl, Nat.mul_one, Nat.add_zero] at hx12_2); have hf12_2 := hfr12 2; (try simp only [show (k39).sz = 3 from rfl, Nat.mul_one, Nat.add_zero] at hf12_2); clear hcl12 hcc12 hfr12 hM12) | ((with_reducible refine gate_store (t := 39) (p := 21) rfl ?_); refine store_event (t := 39) (p := 21) (v := ?vo_w13) (w1 := (((w11.setCell ⟨go10, (x4_1 : Int).toNat * 3, none⟩ (.int .i64 t238)).setCell ⟨go10, (x4_1 : Int).toNat * 3 + 1, none⟩ (.int .i64 t239)).setCell ⟨go10, (x4_1 : Int).toNat * 3 + 2, none⟩ (.int .i64 t240))) ?hg ?ho ?hn ?hr ?_; (case ho => rfl); (case hg => rfl); (case hn => rfl); (case hr => first | (go_simp; done) | (go_simp; rfl)); intro w13 hw; have hg : w11.grownBy w13 (some go10) := (by rw [hw]; exact HP12.2); have hp_ : Kd.R k39 39 w13 w.heap.size (fun _ => True) (.slice (some ⟨go10, 0, none⟩) x3_1.length co10) y241 := (by rw [hw, Ny241.out]; exact HP12.1); clear HP12; replace HO_3 := Aside0.mk (hp_); replace HB := Aside0.mk ((by rw [hw]; exact below_set (below_set (below_set (HB.out) GB10.out) GB10.out) GB10.out : Below w.heap.size w w13)); clear hg hw hp_))
   go_roundg k1
   case measure => have := HK1.out; omega
   case rel => exact ⟨(y241), (wrap64 (x4_1 + 1)), rsd, H', ⟨by have := HK1.out; omega⟩, ⟨kr HO_3.out⟩, ⟨tb HB⟩⟩
def laws_toRes.f (k : Nat) (a0_0 : Int) (l0_1 : List Int) : Option (Int × List Int) := (laws_toIntS.f k l0_1).bind fun t250 => (some (a0_0, t250))
set_option maxHeartbeats 8000000 in
set_option maxRecDepth 100000 in
theorem laws_toRes.calls (k : Nat) (a0_0 : Int) (A0_1 : Option Addr) (c0_1 : Nat) (l0_1 : List Int) (r1 : Int) (r2 : List Int) (w : World) (hr0_1 : Kd.C (Kd.int .i64) w A0_1 l0_1.length l0_1) (hc0_1 : l0_1.length ≤ c0_1) (h : laws_toRes.f k a0_0 l0_1 = some (r1, r2)) :
  Calls Tryz.prog 180 #[.agg #[.int .i64 a0_0, .slice A0_1 l0_1.length c0_1]] w fun e w' => ∃ v1_ : Value, e = .returned (.agg #[.int .i64 r1, v1_]) ∧ Kd.R (Kd.int .i64) 3 w' w.heap.size (fun _ => True) v1_ r2 ∧ Below w.heap.size w w' := by
 have hu174 := Tryz.underlying174
 have hu31 := Tryz.underlying31
 have HR0_1 := Aside0.mk hr0_1
 have HC0_1 := Aside0.mk hc0_1
 clear hr0_1 hc0_1
 have HB := Aside0.mk (Below.refl w.heap.size w)
 have H := h
 clear h
 unfold laws_toRes.f at H
 obtain ⟨t250, A2, H⟩ := bn H
 try dsimp only at H
 simp only [Option.some.injEq, Prod.mk.injEq] at H
 obtain ⟨rfl, rfl⟩ := H
 go_enter Tryz.func180, Tryz.ntmps180
 go_wp2_with (first | ((with_reducible refine gq 1 rfl ?_); refine bx0 HB (N := 1) (t := 174) ?_; clear HB; intro gb247 w3 BK247 GE247 HB) | ((with_reducible refine gq 2 rfl ?_); refine bx1 HB BK247 (N := 2) (cs := #[.int .i64 0, .slice none 0 0]) (t := 31) ?_; clear HB BK247; intro gb248 w4 BK248 GE248 HB NB247_248 NB248_247 BK247) | ((with_reducible refine gq 3 rfl ?_); refine bx2 HB BK247 BK248 (N := 3) (cs := #[.int .i64 0, .slice none 0 0]) (t := 31) ?_; clear HB BK247 BK248; intro gb249 w5 BK249 GE249 HB NB247_249 NB249_247 BK247 NB248_249 NB249_248 BK248; have hnb6 := NB247_248.out; have hnc6 := NB248_247.out; have hnb7 := NB247_249.out; have hnc7 := NB249_247.out; have hz8 := cs2_ BK247; have hnb9 := NB249_248.out; have hnc9 := NB248_249.out; have hz10 := cs2_ BK249) | ((with_reducible refine gf 91 rfl ?_); refine gL 9 Tryz.func91 #[.slice A0_1 l0_1.length c0_1] ?_; (with_reducible refine (laws_toIntS.calls k _ _ l0_1 t250 _ ?side1 HC0_1.out A2.out).mono ?_); (case side1 => exact Kd.C_below HR0_1.out (tb HB)); rintro e w11 ⟨v251, rfl, ho0, hb⟩; refine ⟨_, rfl, ?_⟩; have HO252 := Aside0.mk (Kd.R_lower ho0 (below_size (tb HB))); replace BK247 := bbf BK247 hb; replace BK248 := bbf BK248 hb; replace BK249 := Aside0.mk (blk_below (g := gb249) (o := .cells #[.int .i64 a0_0, .slice none 0 0] 31 (0, 0)) (by (with_reducible repeat (first | refine blk_drewN ?_ _ | refine blk_drew ?_ | refine blk_alloc ?_ _)); refine blk_put (cs := #[.int .i64 0, .slice none 0 0]) ?_ 0 _ rfl; (with_reducible repeat (first | refine blk_drewN ?_ _ | refine blk_drew ?_ | refine blk_alloc ?_ _)); exact BK249.out) hb); replace HB := bs HB hb; (try clear hb); (try clear ho0); obtain ⟨Ao12, co12, eo12⟩ := Kd.R_slice HO252.out; subst eo12; have hz13 := cs2_ BK249; have hz14 := cs2_ BK248))
 refine bodyPost_ret (results_cell_row rfl _ _ gb248 31 #[.int .i64 a0_0, .slice Ao12 t250.length co12] (0, 0) _ rfl (bfp2 BK248) Tryz.underlying31 rfl (by kernel_rfl)) rfl ?_
 exact ⟨_, er, by (with_reducible repeat (first | apply Kd.R_alloc | apply Kd.R_drewN | apply Kd.R_drew)); exact Kd.R_mono (Kd.R_far (p := ⟨gb248, 1, none⟩) (Kd.R_far (p := ⟨gb248, 0, none⟩) (Kd.R_far (p := ⟨gb249, 1, none⟩) (Kd.R_types (Kd.R_types HO252.out BK249.out (by decide)) BK248.out (by decide)) (fun _ hk => hk.1.2) (.slice Ao12 t250.length co12)) (fun _ hk => hk.2) (.int .i64 a0_0)) (fun _ hk => hk.2) (.slice Ao12 t250.length co12)) (fun _ hk => trivial), tb HB⟩
def laws_toEntryS.l0 : Nat → List (S236) → List (S37) → Int → Option ((List (S37)))
 | 0, _, _, _ => none
 | k + 1, x0, x3, x4 => if x4 < (x0.length : Int) then (if 0 ≤ x4 then ((laws_toEntry.f ((rd_T236 x0 x4).f0) ((rd_T236 x0 x4).f1) ((rd_T236 x0 x4).f2)).bind fun bt260 => (if x4 < (x3.length : Int) then (laws_toEntryS.l0 k x0 (x3.set (x4 : Int).toNat (⟨bt260.1, bt260.2.1, bt260.2.2⟩ : S37)) (wrap64 (x4 + 1))) else (none))) else (none)) else (some x3)
def laws_toEntryS.f (k : Nat) (l0 : List (S236)) : Option ((List (S37))) := if 0 ≤ (l0.length : Int) then (if ((l0.length : Int) : Int).toNat ≤ 11728124029610 then (laws_toEntryS.l0 k l0 (List.replicate ((l0.length : Int) : Int).toNat z37) 0) else (none)) else (none)
set_option maxHeartbeats 8000000 in
set_option maxRecDepth 100000 in
theorem laws_toEntryS.calls (k : Nat) (A0 : Option Addr) (c0 : Nat) (l0 : List (S236)) (r : List (S37)) (w : World) (hr0 : Kd.C k236 w A0 l0.length l0) (hc0 : l0.length ≤ c0) (h : laws_toEntryS.f k l0 = some r) :
  Calls Tryz.prog 191 #[.slice A0 l0.length c0] w fun e w' => ∃ v0_ : Value, e = .returned (v0_) ∧ Kd.R k37 37 w' w.heap.size (fun _ => True) v0_ r ∧ Below w.heap.size w w' := by
 have hu236 := Tryz.underlying236
 have hu37 := Tryz.underlying37
 have HR0 := Aside0.mk hr0
 have HC0 := Aside0.mk hc0
 clear hr0 hc0
 have HB := Aside0.mk (Below.refl w.heap.size w)
 have H := h
 clear h
 unfold laws_toEntryS.f at H
 obtain ⟨c2b0, c2b1, H⟩ := itb H
 obtain ⟨c3b0, c3b1, H⟩ := itb H
 obtain ⟨y256, hy256⟩ : ∃ y_ : List (S37), y_ = (List.replicate ((l0.length : Int) : Int).toNat z37) := ⟨_, rfl⟩
 replace H : (laws_toEntryS.l0 k l0 y256 0) = some r := by first | (rw [hy256]; with_reducible exact H) | (have H2_ := (Option.bind_some _ _).symm.trans H; rw [hy256]; with_reducible exact H2_) | (have H2_ := (Option.bind_some _ _).symm.trans H; with_reducible exact H2_) | with_reducible exact H | (rw [hy256]; exact H) | exact H
 have Ny256 := Aside0.mk hy256
 clear hy256
 have H' := Aside0.mk H
 clear H
 go_enter Tryz.func191, Tryz.ntmps191
 go_wp2_with (first | ((with_reducible refine gq 7 rfl ?_); refine Kd.R_make k37 _ 37 rfl (N := 7) rfl 28 _ _ rfl (l0.length : Int) rfl rfl Tryz.underlying28 (.agg #[(.int .i64 0), (.int .i64 0), (.int .i64 0)]) 24 info37 rfl (by decide) (by omega) z37 (ok := fun _ => True) (okp := fun _ => True) (k37_mkM _ _ _ z37 ) (fun _ hk => hk) trivial (od) (Nat.le_trans (Nat.mul_le_mul_right _ (od : (l0.length : Int).toNat ≤ 11728124029610)) (by omega)) (Below.refl _ _) (Nat.le_refl _) ?_; intro v257 w4 ho5 hb hg_ hnew_; clear hg_ hnew_; (first | rw [← Ny256.out] at ho5 | (simp only [Int.reduceToNat] at ho5; rw [← Ny256.out] at ho5)); have HO258 := Aside0.mk (Kd.R_lower ho5 (below_size (tb HB))); replace HB := bs HB hb; clear hb ho5))
 go_loopg [4] k (fun kq v4 w' => ∃ (x3_1 : List (S37)) (x4_1 : Int), v4 = .int .i64 x4_1 ∧ Aside0 (laws_toEntryS.l0 kq l0 x3_1 x4_1 = some r) ∧ Aside0 (kq ≤ k) ∧ Aside0 (Kd.R k37 37 w' w.heap.size (fun _ => True) v257 x3_1) ∧ Aside0 (Below w.heap.size w w'))
 case atStart => exact ⟨(y256), (0), rsd, H', ⟨Nat.le_refl _⟩, ⟨kr HO258.out⟩, ⟨tb HB⟩⟩
 case round =>
  clear H'
  obtain ⟨x3_1, x4_1, rfl, HA, HK1, HO_3, HB⟩ := hrel
  cases gk with
  | zero => exact absurd HA.out (by simp [laws_toEntryS.l0])
  | succ k1 =>
   have H := HA.out
   clear HA
   simp only [laws_toEntryS.l0] at H
   revert H; refine icd (fun c6b0 H => ?_) fun c6b0 H => ?neg
   case neg =>
    obtain rfl := oin H
    go_wp2
    go_ret
    exact ⟨_, er, kr HO_3.out, tb HB⟩
   obtain ⟨c7b0, H⟩ := itd H
   obtain ⟨⟨t260, t261, t262⟩, A8, H⟩ := bn H
   try dsimp only at H
   obtain ⟨c9b0, H⟩ := itd H
   obtain ⟨y263, hy263⟩ : ∃ y_ : List (S37), y_ = (x3_1.set (x4_1 : Int).toNat (⟨t260, t261, t262⟩ : S37)) := ⟨_, rfl⟩
   replace H : (laws_toEntryS.l0 k1 l0 y263 (wrap64 (x4_1 + 1))) = some r := by first | (rw [hy263]; with_reducible exact H) | (have H2_ := (Option.bind_some _ _).symm.trans H; rw [hy263]; with_reducible exact H2_) | (have H2_ := (Option.bind_some _ _).symm.trans H; with_reducible exact H2_) | with_reducible exact H | (rw [hy263]; exact H) | exact H
   have Ny263 := Aside0.mk hy263
   clear hy263
   have H' := Aside0.mk H
   clear H
   have p259 : 0 ≤ (x4_1 : Int) := od
   have q259 : x4_1 < (l0.length : Int) := od
   obtain ⟨ad259, e259, hx259⟩ := att236 HR0.out x4_1 p259 q259
   cases e259
   replace hx259 := ox3 HB hx259
   replace p259 := eq_true p259
   replace q259 := eq_true q259
   go_wp2_with (first | ((with_reducible refine gf 201 rfl ?_); refine gL 20 Tryz.func201 #[.agg #[.int .i64 ((rd_T236 l0 x4_1).f0), .int .i64 ((rd_T236 l0 x4_1).f1), .int .i64 ((rd_T236 l0 x4_1).f2)]] ?_; (with_reducible refine (laws_toEntry.calls ((rd_T236 l0 x4_1).f0) ((rd_T236 l0 x4_1).f1) ((rd_T236 l0 x4_1).f2) t260 t261 t262 _ A8.out).mono ?_); rintro e w11 ⟨rfl, hb⟩; refine ⟨_, rfl, ?_⟩; replace HO_3 := rb HO_3 hb; replace HB := bs HB hb; (try clear hb); have p10 : 0 ≤ (x4_1 : Int) := od; have q10 : (x4_1 : Int) < ((x3_1.length : Int) : Int) := od; obtain ⟨go10, co10, eo10, gb10, gl10, cl10, HG10⟩ := Kd.R_form HO_3.out (by omega); (first | cases eo10 | (injection eo10 with ea_ en_ ec_; (first | subst ea_ | (injection ea_ with ea_; subst ea_)); subst ec_; clear en_)); have GB10 := Aside0.mk gb10; have GG10 := Aside0.mk HG10; clear gb10 gl10 HG10; obtain ⟨ce10, hcl10, hM10, hcc10, hfr10⟩ := Kd.R_elem HO_3.out z37 (x4_1 : Int) p10 q10; obtain rfl := k37_openM hM10; have hx10_0 : w11.cell? ⟨go10, (x4_1 : Int).toNat * 3, none⟩ = some (.int .i64 ((rd_T37 x3_1 x4_1).f0)) := hcc10 0 _ rfl; have hx10_1 : w11.cell? ⟨go10, (x4_1 : Int).toNat * 3 + 1, none⟩ = some (.int .i64 ((rd_T37 x3_1 x4_1).f1)) := hcc10 1 _ rfl; have hx10_2 : w11.cell? ⟨go10, (x4_1 : Int).toNat * 3 + 2, none⟩ = some (.int .i64 ((rd_T37 x3_1 x4_1).f2)) := hcc10 2 _ rfl; have hf10_0 : w11.frozen? ⟨go10, (x4_1 : Int).toNat * 3, none⟩ = false := hfr10 0; have hf10_1 : w11.frozen? ⟨go10, (x4_1 : Int).toNat * 3 + 1, none⟩ = false := hfr10 1; have hf10_2 : w11.frozen? ⟨go10, (x4_1 : Int).toNat * 3 + 2, none⟩ = false := hfr10 2; clear hcl10 hcc10 hfr10 hM10; replace p10 := eq_true p10; replace q10 := eq_true q10; have HX12 := Aside0.mk (show Kd.R k37 37 w11 w.heap.size (fun _ => True) (.slice (some ⟨go10, 0, none⟩) x3_1.length co10) x3_1 from (kr HO_3.out)); obtain ⟨ce12, hcl12, hM12, hcc12, hfr12⟩ := Kd.R_elem HX12.out z37 (x4_1 : Int) (od) (by have h_ : (x4_1 : Int) < ((x3_1.length : Int) : Int) := od; first | exact h_ | (have e_ := (Kd.R_reads' HO_3.out).1; omega) | simpa using h_); obtain rfl := k37_openM hM12; have HP12 := Kd.R_seg HX12.out (x4_1 : Int) (od) (by have h_ : (x4_1 : Int) < ((x3_1.length : Int) : Int) := od; first | exact h_ | (have e_ := (Kd.R_reads' HO_3.out).1; omega) | simpa using h_) (seg := [.int .i64 t260, .int .i64 t261, .int .i64 t262]) (j := 0) hcl12 hcc12 (show 3 ≤ 3 from by decide) (x' := (⟨t260, t261, t262⟩ : S37)) (k37_mkM _ _ _ (⟨t260, t261, t262⟩ : S37) ) (fun _ hk => hk); have hx12_0 := hcc12 0 _ rfl; (try simp only [show (k37).sz = 3 from rfl, Nat.mul_one, Nat.add_zero] at hx12_0); have hf12_0 := hfr12 0; (try simp only [show (k37).sz = 3 from rfl, Nat.mul_one, Nat.add_zero] at hf12_0); have hx12_1 := hcc12 1 _ rfl; (try simp only [show (k37).sz = 3 from rfl, Nat.mul_one, Nat.add_zero] at hx12_1); have hf12_1 := hfr12 1; (try simp only [show (k37).sz = 3 from rfl, Nat.mul_one, Nat.add_zero] at hf12_1); have hx12_2 := hcc12 2 _ rfl; (try simp only [show (k37).sz = 3 from rfl, Nat.mul_one, Nat.add_zero] at hx12_2); have hf12_2 := hfr12 2; (try simp only [show (k37).sz = 3 from rfl, Nat.mul_one, Nat.add_zero] at hf12_2); clear hcl12 hcc12 hfr12 hM12) | ((with_reducible refine gate_store (t := 37) (p := 21) rfl ?_); refine store_event (t := 37) (p := 21) (v := ?vo_w13) (w1 := (((w11.setCell ⟨go10, (x4_1 : Int).toNat * 3, none⟩ (.int .i64 t260)).setCell ⟨go10, (x4_1 : Int).toNat * 3 + 1, none⟩ (.int .i64 t261)).setCell ⟨go10, (x4_1 : Int).toNat * 3 + 2, none⟩ (.int .i64 t262))) ?hg ?ho ?hn ?hr ?_; (case ho => rfl); (case hg => rfl); (case hn => rfl); (case hr => first | (go_simp; done) | (go_simp; rfl)); intro w13 hw; have hg : w11.grownBy w13 (some go10) := (by rw [hw]; exact HP12.2); have hp_ : Kd.R k37 37 w13 w.heap.size (fun _ => True) (.slice (some ⟨go10, 0, none⟩) x3_1.length co10) y263 := (by rw [hw, Ny263.out]; exact HP12.1); clear HP12; replace HO_3 := Aside0.mk (hp_); replace HB := Aside0.mk ((by rw [hw]; exact below_set (below_set (below_set (HB.out) GB10.out) GB10.out) GB10.out : Below w.heap.size w w13)); clear hg hw hp_))
   go_roundg k1
   case measure => have := HK1.out; omega
   case rel => exact ⟨(y263), (wrap64 (x4_1 + 1)), rsd, H', ⟨by have := HK1.out; omega⟩, ⟨kr HO_3.out⟩, ⟨tb HB⟩⟩
def laws_toOpS.l0 : Nat → List (S173) → List (S132) → Int → Option ((List (S132)))
 | 0, _, _, _ => none
 | k + 1, x0, x3, x4 => if x4 < (x0.length : Int) then (if 0 ≤ x4 then ((laws_toOp.f ((rd_T173 x0 x4).f0) ((rd_T173 x0 x4).f1) ((rd_T173 x0 x4).f2)).bind fun bt304 => (if x4 < (x3.length : Int) then (laws_toOpS.l0 k x0 (x3.set (x4 : Int).toNat (⟨bt304.1, bt304.2.1, bt304.2.2⟩ : S132)) (wrap64 (x4 + 1))) else (none))) else (none)) else (some x3)
def laws_toOpS.f (k : Nat) (l0 : List (S173)) : Option ((List (S132))) := if 0 ≤ (l0.length : Int) then (if ((l0.length : Int) : Int).toNat ≤ 11728124029610 then (laws_toOpS.l0 k l0 (List.replicate ((l0.length : Int) : Int).toNat z132) 0) else (none)) else (none)
set_option maxHeartbeats 8000000 in
set_option maxRecDepth 100000 in
theorem laws_toOpS.calls (k : Nat) (A0 : Option Addr) (c0 : Nat) (l0 : List (S173)) (r : List (S132)) (w : World) (hr0 : Kd.C k173 w A0 l0.length l0) (hc0 : l0.length ≤ c0) (h : laws_toOpS.f k l0 = some r) :
  Calls Tryz.prog 176 #[.slice A0 l0.length c0] w fun e w' => ∃ v0_ : Value, e = .returned (v0_) ∧ Kd.R k132 132 w' w.heap.size (fun _ => True) v0_ r ∧ Below w.heap.size w w' := by
 have hu173 := Tryz.underlying173
 have hu132 := Tryz.underlying132
 have HR0 := Aside0.mk hr0
 have HC0 := Aside0.mk hc0
 clear hr0 hc0
 have HB := Aside0.mk (Below.refl w.heap.size w)
 have H := h
 clear h
 unfold laws_toOpS.f at H
 obtain ⟨c2b0, c2b1, H⟩ := itb H
 obtain ⟨c3b0, c3b1, H⟩ := itb H
 obtain ⟨y300, hy300⟩ : ∃ y_ : List (S132), y_ = (List.replicate ((l0.length : Int) : Int).toNat z132) := ⟨_, rfl⟩
 replace H : (laws_toOpS.l0 k l0 y300 0) = some r := by first | (rw [hy300]; with_reducible exact H) | (have H2_ := (Option.bind_some _ _).symm.trans H; rw [hy300]; with_reducible exact H2_) | (have H2_ := (Option.bind_some _ _).symm.trans H; with_reducible exact H2_) | with_reducible exact H | (rw [hy300]; exact H) | exact H
 have Ny300 := Aside0.mk hy300
 clear hy300
 have H' := Aside0.mk H
 clear H
 go_enter Tryz.func176, Tryz.ntmps176
 go_wp2_with (first | ((with_reducible refine gq 7 rfl ?_); refine Kd.R_make k132 _ 132 rfl (N := 7) rfl 79 _ _ rfl (l0.length : Int) rfl rfl Tryz.underlying79 (.agg #[(.int .i64 0), (.int .i64 0), (.int .i64 0)]) 24 info132 rfl (by decide) (by omega) z132 (ok := fun _ => True) (okp := fun _ => True) (k132_mkM _ _ _ z132 ) (fun _ hk => hk) trivial (od) (Nat.le_trans (Nat.mul_le_mul_right _ (od : (l0.length : Int).toNat ≤ 11728124029610)) (by omega)) (Below.refl _ _) (Nat.le_refl _) ?_; intro v301 w4 ho5 hb hg_ hnew_; clear hg_ hnew_; (first | rw [← Ny300.out] at ho5 | (simp only [Int.reduceToNat] at ho5; rw [← Ny300.out] at ho5)); have HO302 := Aside0.mk (Kd.R_lower ho5 (below_size (tb HB))); replace HB := bs HB hb; clear hb ho5))
 go_loopg [4] k (fun kq v4 w' => ∃ (x3_1 : List (S132)) (x4_1 : Int), v4 = .int .i64 x4_1 ∧ Aside0 (laws_toOpS.l0 kq l0 x3_1 x4_1 = some r) ∧ Aside0 (kq ≤ k) ∧ Aside0 (Kd.R k132 132 w' w.heap.size (fun _ => True) v301 x3_1) ∧ Aside0 (Below w.heap.size w w'))
 case atStart => exact ⟨(y300), (0), rsd, H', ⟨Nat.le_refl _⟩, ⟨kr HO302.out⟩, ⟨tb HB⟩⟩
 case round =>
  clear H'
  obtain ⟨x3_1, x4_1, rfl, HA, HK1, HO_3, HB⟩ := hrel
  cases gk with
  | zero => exact absurd HA.out (by simp [laws_toOpS.l0])
  | succ k1 =>
   have H := HA.out
   clear HA
   simp only [laws_toOpS.l0] at H
   revert H; refine icd (fun c6b0 H => ?_) fun c6b0 H => ?neg
   case neg =>
    obtain rfl := oin H
    go_wp2
    go_ret
    exact ⟨_, er, kr HO_3.out, tb HB⟩
   obtain ⟨c7b0, H⟩ := itd H
   obtain ⟨⟨t304, t305, t306⟩, A8, H⟩ := bn H
   try dsimp only at H
   obtain ⟨c9b0, H⟩ := itd H
   obtain ⟨y307, hy307⟩ : ∃ y_ : List (S132), y_ = (x3_1.set (x4_1 : Int).toNat (⟨t304, t305, t306⟩ : S132)) := ⟨_, rfl⟩
   replace H : (laws_toOpS.l0 k1 l0 y307 (wrap64 (x4_1 + 1))) = some r := by first | (rw [hy307]; with_reducible exact H) | (have H2_ := (Option.bind_some _ _).symm.trans H; rw [hy307]; with_reducible exact H2_) | (have H2_ := (Option.bind_some _ _).symm.trans H; with_reducible exact H2_) | with_reducible exact H | (rw [hy307]; exact H) | exact H
   have Ny307 := Aside0.mk hy307
   clear hy307
   have H' := Aside0.mk H
   clear H
   have p303 : 0 ≤ (x4_1 : Int) := od
   have q303 : x4_1 < (l0.length : Int) := od
   obtain ⟨ad303, e303, hx303⟩ := att173 HR0.out x4_1 p303 q303
   cases e303
   replace hx303 := ox3 HB hx303
   replace p303 := eq_true p303
   replace q303 := eq_true q303
   go_wp2_with (first | ((with_reducible refine gf 179 rfl ?_); refine gL 20 Tryz.func179 #[.agg #[.int .i64 ((rd_T173 l0 x4_1).f0), .int .i64 ((rd_T173 l0 x4_1).f1), .int .i64 ((rd_T173 l0 x4_1).f2)]] ?_; (with_reducible refine (laws_toOp.calls ((rd_T173 l0 x4_1).f0) ((rd_T173 l0 x4_1).f1) ((rd_T173 l0 x4_1).f2) t304 t305 t306 _ A8.out).mono ?_); rintro e w11 ⟨rfl, hb⟩; refine ⟨_, rfl, ?_⟩; replace HO_3 := rb HO_3 hb; replace HB := bs HB hb; (try clear hb); have p10 : 0 ≤ (x4_1 : Int) := od; have q10 : (x4_1 : Int) < ((x3_1.length : Int) : Int) := od; obtain ⟨go10, co10, eo10, gb10, gl10, cl10, HG10⟩ := Kd.R_form HO_3.out (by omega); (first | cases eo10 | (injection eo10 with ea_ en_ ec_; (first | subst ea_ | (injection ea_ with ea_; subst ea_)); subst ec_; clear en_)); have GB10 := Aside0.mk gb10; have GG10 := Aside0.mk HG10; clear gb10 gl10 HG10; obtain ⟨ce10, hcl10, hM10, hcc10, hfr10⟩ := Kd.R_elem HO_3.out z132 (x4_1 : Int) p10 q10; obtain rfl := k132_openM hM10; have hx10_0 : w11.cell? ⟨go10, (x4_1 : Int).toNat * 3, none⟩ = some (.int .i64 ((rd_T132 x3_1 x4_1).f0)) := hcc10 0 _ rfl; have hx10_1 : w11.cell? ⟨go10, (x4_1 : Int).toNat * 3 + 1, none⟩ = some (.int .i64 ((rd_T132 x3_1 x4_1).f1)) := hcc10 1 _ rfl; have hx10_2 : w11.cell? ⟨go10, (x4_1 : Int).toNat * 3 + 2, none⟩ = some (.int .i64 ((rd_T132 x3_1 x4_1).f2)) := hcc10 2 _ rfl; have hf10_0 : w11.frozen? ⟨go10, (x4_1 : Int).toNat * 3, none⟩ = false := hfr10 0; have hf10_1 : w11.frozen? ⟨go10, (x4_1 : Int).toNat * 3 + 1, none⟩ = false := hfr10 1; have hf10_2 : w11.frozen? ⟨go10, (x4_1 : Int).toNat * 3 + 2, none⟩ = false := hfr10 2; clear hcl10 hcc10 hfr10 hM10; replace p10 := eq_true p10; replace q10 := eq_true q10; have HX12 := Aside0.mk (show Kd.R k132 132 w11 w.heap.size (fun _ => True) (.slice (some ⟨go10, 0, none⟩) x3_1.length co10) x3_1 from (kr HO_3.out)); obtain ⟨ce12, hcl12, hM12, hcc12, hfr12⟩ := Kd.R_elem HX12.out z132 (x4_1 : Int) (od) (by have h_ : (x4_1 : Int) < ((x3_1.length : Int) : Int) := od; first | exact h_ | (have e_ := (Kd.R_reads' HO_3.out).1; omega) | simpa using h_); obtain rfl := k132_openM hM12; have HP12 := Kd.R_seg HX12.out (x4_1 : Int) (od) (by have h_ : (x4_1 : Int) < ((x3_1.length : Int) : Int) := od; first | exact h_ | (have e_ := (Kd.R_reads' HO_3.out).1; omega) | simpa using h_) (seg := [.int .i64 t304, .int .i64 t305, .int .i64 t306]) (j := 0) hcl12 hcc12 (show 3 ≤ 3 from by decide) (x' := (⟨t304, t305, t306⟩ : S132)) (k132_mkM _ _ _ (⟨t304, t305, t306⟩ : S132) ) (fun _ hk => hk); have hx12_0 := hcc12 0 _ rfl; (try simp only [show (k132).sz = 3 from rfl, Nat.mul_one, Nat.add_zero] at hx12_0); have hf12_0 := hfr12 0; (try simp only [show (k132).sz = 3 from rfl, Nat.mul_one, Nat.add_zero] at hf12_0); have hx12_1 := hcc12 1 _ rfl; (try simp only [show (k132).sz = 3 from rfl, Nat.mul_one, Nat.add_zero] at hx12_1); have hf12_1 := hfr12 1; (try simp only [show (k132).sz = 3 from rfl, Nat.mul_one, Nat.add_zero] at hf12_1); have hx12_2 := hcc12 2 _ rfl; (try simp only [show (k132).sz = 3 from rfl, Nat.mul_one, Nat.add_zero] at hx12_2); have hf12_2 := hfr12 2; (try simp only [show (k132).sz = 3 from rfl, Nat.mul_one, Nat.add_zero] at hf12_2); clear hcl12 hcc12 hfr12 hM12) | ((with_reducible refine gate_store (t := 132) (p := 21) rfl ?_); refine store_event (t := 132) (p := 21) (v := ?vo_w13) (w1 := (((w11.setCell ⟨go10, (x4_1 : Int).toNat * 3, none⟩ (.int .i64 t304)).setCell ⟨go10, (x4_1 : Int).toNat * 3 + 1, none⟩ (.int .i64 t305)).setCell ⟨go10, (x4_1 : Int).toNat * 3 + 2, none⟩ (.int .i64 t306))) ?hg ?ho ?hn ?hr ?_; (case ho => rfl); (case hg => rfl); (case hn => rfl); (case hr => first | (go_simp; done) | (go_simp; rfl)); intro w13 hw; have hg : w11.grownBy w13 (some go10) := (by rw [hw]; exact HP12.2); have hp_ : Kd.R k132 132 w13 w.heap.size (fun _ => True) (.slice (some ⟨go10, 0, none⟩) x3_1.length co10) y307 := (by rw [hw, Ny307.out]; exact HP12.1); clear HP12; replace HO_3 := Aside0.mk (hp_); replace HB := Aside0.mk ((by rw [hw]; exact below_set (below_set (below_set (HB.out) GB10.out) GB10.out) GB10.out : Below w.heap.size w w13)); clear hg hw hp_))
   go_roundg k1
   case measure => have := HK1.out; omega
   case rel => exact ⟨(y307), (wrap64 (x4_1 + 1)), rsd, H', ⟨by have := HK1.out; omega⟩, ⟨kr HO_3.out⟩, ⟨tb HB⟩⟩
def laws_toPairS.l0 : Nat → List (S224) → List (S145) → Int → Option ((List (S145)))
 | 0, _, _, _ => none
 | k + 1, x0, x3, x4 => if x4 < (x0.length : Int) then (if 0 ≤ x4 then ((laws_toPair.f ((rd_T224 x0 x4).f0) ((rd_T224 x0 x4).f1)).bind fun bt315 => (if x4 < (x3.length : Int) then (laws_toPairS.l0 k x0 (x3.set (x4 : Int).toNat (⟨bt315.1, bt315.2⟩ : S145)) (wrap64 (x4 + 1))) else (none))) else (none)) else (some x3)
def laws_toPairS.f (k : Nat) (l0 : List (S224)) : Option ((List (S145))) := if 0 ≤ (l0.length : Int) then (if ((l0.length : Int) : Int).toNat ≤ 17592186044416 then (laws_toPairS.l0 k l0 (List.replicate ((l0.length : Int) : Int).toNat z145) 0) else (none)) else (none)
set_option maxHeartbeats 8000000 in
set_option maxRecDepth 100000 in
theorem laws_toPairS.calls (k : Nat) (A0 : Option Addr) (c0 : Nat) (l0 : List (S224)) (r : List (S145)) (w : World) (hr0 : Kd.C k224 w A0 l0.length l0) (hc0 : l0.length ≤ c0) (h : laws_toPairS.f k l0 = some r) :
  Calls Tryz.prog 177 #[.slice A0 l0.length c0] w fun e w' => ∃ v0_ : Value, e = .returned (v0_) ∧ Kd.R k145 145 w' w.heap.size (fun _ => True) v0_ r ∧ Below w.heap.size w w' := by
 have hu224 := Tryz.underlying224
 have hu145 := Tryz.underlying145
 have HR0 := Aside0.mk hr0
 have HC0 := Aside0.mk hc0
 clear hr0 hc0
 have HB := Aside0.mk (Below.refl w.heap.size w)
 have H := h
 clear h
 unfold laws_toPairS.f at H
 obtain ⟨c2b0, c2b1, H⟩ := itb H
 obtain ⟨c3b0, c3b1, H⟩ := itb H
 obtain ⟨y311, hy311⟩ : ∃ y_ : List (S145), y_ = (List.replicate ((l0.length : Int) : Int).toNat z145) := ⟨_, rfl⟩
 replace H : (laws_toPairS.l0 k l0 y311 0) = some r := by first | (rw [hy311]; with_reducible exact H) | (have H2_ := (Option.bind_some _ _).symm.trans H; rw [hy311]; with_reducible exact H2_) | (have H2_ := (Option.bind_some _ _).symm.trans H; with_reducible exact H2_) | with_reducible exact H | (rw [hy311]; exact H) | exact H
 have Ny311 := Aside0.mk hy311
 clear hy311
 have H' := Aside0.mk H
 clear H
 go_enter Tryz.func177, Tryz.ntmps177
 go_wp2_with (first | ((with_reducible refine gq 7 rfl ?_); refine Kd.R_make k145 _ 145 rfl (N := 7) rfl 80 _ _ rfl (l0.length : Int) rfl rfl Tryz.underlying80 (.agg #[(.int .i64 0), (.int .i64 0)]) 16 info145 rfl (by decide) (by omega) z145 (ok := fun _ => True) (okp := fun _ => True) (k145_mkM _ _ _ z145 ) (fun _ hk => hk) trivial (od) (Nat.le_trans (Nat.mul_le_mul_right _ (od : (l0.length : Int).toNat ≤ 17592186044416)) (by omega)) (Below.refl _ _) (Nat.le_refl _) ?_; intro v312 w4 ho5 hb hg_ hnew_; clear hg_ hnew_; (first | rw [← Ny311.out] at ho5 | (simp only [Int.reduceToNat] at ho5; rw [← Ny311.out] at ho5)); have HO313 := Aside0.mk (Kd.R_lower ho5 (below_size (tb HB))); replace HB := bs HB hb; clear hb ho5))
 go_loopg [4] k (fun kq v4 w' => ∃ (x3_1 : List (S145)) (x4_1 : Int), v4 = .int .i64 x4_1 ∧ Aside0 (laws_toPairS.l0 kq l0 x3_1 x4_1 = some r) ∧ Aside0 (kq ≤ k) ∧ Aside0 (Kd.R k145 145 w' w.heap.size (fun _ => True) v312 x3_1) ∧ Aside0 (Below w.heap.size w w'))
 case atStart => exact ⟨(y311), (0), rsd, H', ⟨Nat.le_refl _⟩, ⟨kr HO313.out⟩, ⟨tb HB⟩⟩
 case round =>
  clear H'
  obtain ⟨x3_1, x4_1, rfl, HA, HK1, HO_3, HB⟩ := hrel
  cases gk with
  | zero => exact absurd HA.out (by simp [laws_toPairS.l0])
  | succ k1 =>
   have H := HA.out
   clear HA
   simp only [laws_toPairS.l0] at H
   revert H; refine icd (fun c6b0 H => ?_) fun c6b0 H => ?neg
   case neg =>
    obtain rfl := oin H
    go_wp2
    go_ret
    exact ⟨_, er, kr HO_3.out, tb HB⟩
   obtain ⟨c7b0, H⟩ := itd H
   obtain ⟨⟨t315, t316⟩, A8, H⟩ := bn H
   try dsimp only at H
   obtain ⟨c9b0, H⟩ := itd H
   obtain ⟨y317, hy317⟩ : ∃ y_ : List (S145), y_ = (x3_1.set (x4_1 : Int).toNat (⟨t315, t316⟩ : S145)) := ⟨_, rfl⟩
   replace H : (laws_toPairS.l0 k1 l0 y317 (wrap64 (x4_1 + 1))) = some r := by first | (rw [hy317]; with_reducible exact H) | (have H2_ := (Option.bind_some _ _).symm.trans H; rw [hy317]; with_reducible exact H2_) | (have H2_ := (Option.bind_some _ _).symm.trans H; with_reducible exact H2_) | with_reducible exact H | (rw [hy317]; exact H) | exact H
   have Ny317 := Aside0.mk hy317
   clear hy317
   have H' := Aside0.mk H
   clear H
   have p314 : 0 ≤ (x4_1 : Int) := od
   have q314 : x4_1 < (l0.length : Int) := od
   obtain ⟨ad314, e314, hx314⟩ := att224 HR0.out x4_1 p314 q314
   cases e314
   replace hx314 := ox2 HB hx314
   replace p314 := eq_true p314
   replace q314 := eq_true q314
   go_wp2_with (first | ((with_reducible refine gf 192 rfl ?_); refine gL 20 Tryz.func192 #[.agg #[.int .i64 ((rd_T224 l0 x4_1).f0), .int .i64 ((rd_T224 l0 x4_1).f1)]] ?_; (with_reducible refine (laws_toPair.calls ((rd_T224 l0 x4_1).f0) ((rd_T224 l0 x4_1).f1) t315 t316 _ A8.out).mono ?_); rintro e w11 ⟨rfl, hb⟩; refine ⟨_, rfl, ?_⟩; replace HO_3 := rb HO_3 hb; replace HB := bs HB hb; (try clear hb); have p10 : 0 ≤ (x4_1 : Int) := od; have q10 : (x4_1 : Int) < ((x3_1.length : Int) : Int) := od; obtain ⟨go10, co10, eo10, gb10, gl10, cl10, HG10⟩ := Kd.R_form HO_3.out (by omega); (first | cases eo10 | (injection eo10 with ea_ en_ ec_; (first | subst ea_ | (injection ea_ with ea_; subst ea_)); subst ec_; clear en_)); have GB10 := Aside0.mk gb10; have GG10 := Aside0.mk HG10; clear gb10 gl10 HG10; obtain ⟨ce10, hcl10, hM10, hcc10, hfr10⟩ := Kd.R_elem HO_3.out z145 (x4_1 : Int) p10 q10; obtain rfl := k145_openM hM10; have hx10_0 : w11.cell? ⟨go10, (x4_1 : Int).toNat * 2, none⟩ = some (.int .i64 ((rd_T145 x3_1 x4_1).f0)) := hcc10 0 _ rfl; have hx10_1 : w11.cell? ⟨go10, (x4_1 : Int).toNat * 2 + 1, none⟩ = some (.int .i64 ((rd_T145 x3_1 x4_1).f1)) := hcc10 1 _ rfl; have hf10_0 : w11.frozen? ⟨go10, (x4_1 : Int).toNat * 2, none⟩ = false := hfr10 0; have hf10_1 : w11.frozen? ⟨go10, (x4_1 : Int).toNat * 2 + 1, none⟩ = false := hfr10 1; clear hcl10 hcc10 hfr10 hM10; replace p10 := eq_true p10; replace q10 := eq_true q10; have HX12 := Aside0.mk (show Kd.R k145 145 w11 w.heap.size (fun _ => True) (.slice (some ⟨go10, 0, none⟩) x3_1.length co10) x3_1 from (kr HO_3.out)); obtain ⟨ce12, hcl12, hM12, hcc12, hfr12⟩ := Kd.R_elem HX12.out z145 (x4_1 : Int) (od) (by have h_ : (x4_1 : Int) < ((x3_1.length : Int) : Int) := od; first | exact h_ | (have e_ := (Kd.R_reads' HO_3.out).1; omega) | simpa using h_); obtain rfl := k145_openM hM12; have HP12 := Kd.R_seg HX12.out (x4_1 : Int) (od) (by have h_ : (x4_1 : Int) < ((x3_1.length : Int) : Int) := od; first | exact h_ | (have e_ := (Kd.R_reads' HO_3.out).1; omega) | simpa using h_) (seg := [.int .i64 t315, .int .i64 t316]) (j := 0) hcl12 hcc12 (show 2 ≤ 2 from by decide) (x' := (⟨t315, t316⟩ : S145)) (k145_mkM _ _ _ (⟨t315, t316⟩ : S145) ) (fun _ hk => hk); have hx12_0 := hcc12 0 _ rfl; (try simp only [show (k145).sz = 2 from rfl, Nat.mul_one, Nat.add_zero] at hx12_0); have hf12_0 := hfr12 0; (try simp only [show (k145).sz = 2 from rfl, Nat.mul_one, Nat.add_zero] at hf12_0); have hx12_1 := hcc12 1 _ rfl; (try simp only [show (k145).sz = 2 from rfl, Nat.mul_one, Nat.add_zero] at hx12_1); have hf12_1 := hfr12 1; (try simp only [show (k145).sz = 2 from rfl, Nat.mul_one, Nat.add_zero] at hf12_1); clear hcl12 hcc12 hfr12 hM12) | ((with_reducible refine gate_store (t := 145) (p := 21) rfl ?_); refine store_event (t := 145) (p := 21) (v := ?vo_w13) (w1 := ((w11.setCell ⟨go10, (x4_1 : Int).toNat * 2, none⟩ (.int .i64 t315)).setCell ⟨go10, (x4_1 : Int).toNat * 2 + 1, none⟩ (.int .i64 t316))) ?hg ?ho ?hn ?hr ?_; (case ho => rfl); (case hg => rfl); (case hn => rfl); (case hr => first | (go_simp; done) | (go_simp; rfl)); intro w13 hw; have hg : w11.grownBy w13 (some go10) := (by rw [hw]; exact HP12.2); have hp_ : Kd.R k145 145 w13 w.heap.size (fun _ => True) (.slice (some ⟨go10, 0, none⟩) x3_1.length co10) y317 := (by rw [hw, Ny317.out]; exact HP12.1); clear HP12; replace HO_3 := Aside0.mk (hp_); replace HB := Aside0.mk ((by rw [hw]; exact below_set (below_set (HB.out) GB10.out) GB10.out : Below w.heap.size w w13)); clear hg hw hp_))
   go_roundg k1
   case measure => have := HK1.out; omega
   case rel => exact ⟨(y317), (wrap64 (x4_1 + 1)), rsd, H', ⟨by have := HK1.out; omega⟩, ⟨kr HO_3.out⟩, ⟨tb HB⟩⟩
def laws_toHelpS.l0 : Nat → List (S226) → List (S42) → Int → Option ((List (S42)))
 | 0, _, _, _ => none
 | k + 1, x0, x3, x4 => if x4 < (x0.length : Int) then (if 0 ≤ x4 then ((laws_toHelp.f ((rd_T226 x0 x4).f0) ((rd_T226 x0 x4).f1) ((rd_T226 x0 x4).f2) ((rd_T226 x0 x4).f3)).bind fun bt325 => (if x4 < (x3.length : Int) then (laws_toHelpS.l0 k x0 (x3.set (x4 : Int).toNat (⟨bt325.1, bt325.2.1, bt325.2.2.1, bt325.2.2.2⟩ : S42)) (wrap64 (x4 + 1))) else (none))) else (none)) else (some x3)
def laws_toHelpS.f (k : Nat) (l0 : List (S226)) : Option ((List (S42))) := if 0 ≤ (l0.length : Int) then (if ((l0.length : Int) : Int).toNat ≤ 8796093022208 then (laws_toHelpS.l0 k l0 (List.replicate ((l0.length : Int) : Int).toNat z42) 0) else (none)) else (none)
set_option maxHeartbeats 8000000 in
set_option maxRecDepth 100000 in
theorem laws_toHelpS.calls (k : Nat) (A0 : Option Addr) (c0 : Nat) (l0 : List (S226)) (r : List (S42)) (w : World) (hr0 : Kd.C k226 w A0 l0.length l0) (hc0 : l0.length ≤ c0) (h : laws_toHelpS.f k l0 = some r) :
  Calls Tryz.prog 178 #[.slice A0 l0.length c0] w fun e w' => ∃ v0_ : Value, e = .returned (v0_) ∧ Kd.R k42 42 w' w.heap.size (fun _ => True) v0_ r ∧ Below w.heap.size w w' := by
 have hu226 := Tryz.underlying226
 have hu42 := Tryz.underlying42
 have HR0 := Aside0.mk hr0
 have HC0 := Aside0.mk hc0
 clear hr0 hc0
 have HB := Aside0.mk (Below.refl w.heap.size w)
 have H := h
 clear h
 unfold laws_toHelpS.f at H
 obtain ⟨c2b0, c2b1, H⟩ := itb H
 obtain ⟨c3b0, c3b1, H⟩ := itb H
 obtain ⟨y321, hy321⟩ : ∃ y_ : List (S42), y_ = (List.replicate ((l0.length : Int) : Int).toNat z42) := ⟨_, rfl⟩
 replace H : (laws_toHelpS.l0 k l0 y321 0) = some r := by first | (rw [hy321]; with_reducible exact H) | (have H2_ := (Option.bind_some _ _).symm.trans H; rw [hy321]; with_reducible exact H2_) | (have H2_ := (Option.bind_some _ _).symm.trans H; with_reducible exact H2_) | with_reducible exact H | (rw [hy321]; exact H) | exact H
 have Ny321 := Aside0.mk hy321
 clear hy321
 have H' := Aside0.mk H
 clear H
 go_enter Tryz.func178, Tryz.ntmps178
 go_wp2_with (first | ((with_reducible refine gq 7 rfl ?_); refine Kd.R_make k42 _ 42 rfl (N := 7) rfl 45 _ _ rfl (l0.length : Int) rfl rfl Tryz.underlying45 (.agg #[(.int .i64 0), (.int .i64 0), (.int .i64 0), (.int .i64 0)]) 32 info42 rfl (by decide) (by omega) z42 (ok := fun _ => True) (okp := fun _ => True) (k42_mkM _ _ _ z42 ) (fun _ hk => hk) trivial (od) (Nat.le_trans (Nat.mul_le_mul_right _ (od : (l0.length : Int).toNat ≤ 8796093022208)) (by omega)) (Below.refl _ _) (Nat.le_refl _) ?_; intro v322 w4 ho5 hb hg_ hnew_; clear hg_ hnew_; (first | rw [← Ny321.out] at ho5 | (simp only [Int.reduceToNat] at ho5; rw [← Ny321.out] at ho5)); have HO323 := Aside0.mk (Kd.R_lower ho5 (below_size (tb HB))); replace HB := bs HB hb; clear hb ho5))
 go_loopg [4] k (fun kq v4 w' => ∃ (x3_1 : List (S42)) (x4_1 : Int), v4 = .int .i64 x4_1 ∧ Aside0 (laws_toHelpS.l0 kq l0 x3_1 x4_1 = some r) ∧ Aside0 (kq ≤ k) ∧ Aside0 (Kd.R k42 42 w' w.heap.size (fun _ => True) v322 x3_1) ∧ Aside0 (Below w.heap.size w w'))
 case atStart => exact ⟨(y321), (0), rsd, H', ⟨Nat.le_refl _⟩, ⟨kr HO323.out⟩, ⟨tb HB⟩⟩
 case round =>
  clear H'
  obtain ⟨x3_1, x4_1, rfl, HA, HK1, HO_3, HB⟩ := hrel
  cases gk with
  | zero => exact absurd HA.out (by simp [laws_toHelpS.l0])
  | succ k1 =>
   have H := HA.out
   clear HA
   simp only [laws_toHelpS.l0] at H
   revert H; refine icd (fun c6b0 H => ?_) fun c6b0 H => ?neg
   case neg =>
    obtain rfl := oin H
    go_wp2
    go_ret
    exact ⟨_, er, kr HO_3.out, tb HB⟩
   obtain ⟨c7b0, H⟩ := itd H
   obtain ⟨⟨t325, t326, t327, t328⟩, A8, H⟩ := bn H
   try dsimp only at H
   obtain ⟨c9b0, H⟩ := itd H
   obtain ⟨y329, hy329⟩ : ∃ y_ : List (S42), y_ = (x3_1.set (x4_1 : Int).toNat (⟨t325, t326, t327, t328⟩ : S42)) := ⟨_, rfl⟩
   replace H : (laws_toHelpS.l0 k1 l0 y329 (wrap64 (x4_1 + 1))) = some r := by first | (rw [hy329]; with_reducible exact H) | (have H2_ := (Option.bind_some _ _).symm.trans H; rw [hy329]; with_reducible exact H2_) | (have H2_ := (Option.bind_some _ _).symm.trans H; with_reducible exact H2_) | with_reducible exact H | (rw [hy329]; exact H) | exact H
   have Ny329 := Aside0.mk hy329
   clear hy329
   have H' := Aside0.mk H
   clear H
   have p324 : 0 ≤ (x4_1 : Int) := od
   have q324 : x4_1 < (l0.length : Int) := od
   obtain ⟨ad324, e324, hx324⟩ := att226 HR0.out x4_1 p324 q324
   cases e324
   replace hx324 := ox4 HB hx324
   replace p324 := eq_true p324
   replace q324 := eq_true q324
   go_wp2_with (first | ((with_reducible refine gf 193 rfl ?_); refine gL 20 Tryz.func193 #[.agg #[.int .i64 ((rd_T226 l0 x4_1).f0), .int .i64 ((rd_T226 l0 x4_1).f1), .int .i64 ((rd_T226 l0 x4_1).f2), .int .i64 ((rd_T226 l0 x4_1).f3)]] ?_; (with_reducible refine (laws_toHelp.calls ((rd_T226 l0 x4_1).f0) ((rd_T226 l0 x4_1).f1) ((rd_T226 l0 x4_1).f2) ((rd_T226 l0 x4_1).f3) t325 t326 t327 t328 _ A8.out).mono ?_); rintro e w11 ⟨rfl, hb⟩; refine ⟨_, rfl, ?_⟩; replace HO_3 := rb HO_3 hb; replace HB := bs HB hb; (try clear hb); have p10 : 0 ≤ (x4_1 : Int) := od; have q10 : (x4_1 : Int) < ((x3_1.length : Int) : Int) := od; obtain ⟨go10, co10, eo10, gb10, gl10, cl10, HG10⟩ := Kd.R_form HO_3.out (by omega); (first | cases eo10 | (injection eo10 with ea_ en_ ec_; (first | subst ea_ | (injection ea_ with ea_; subst ea_)); subst ec_; clear en_)); have GB10 := Aside0.mk gb10; have GG10 := Aside0.mk HG10; clear gb10 gl10 HG10; obtain ⟨ce10, hcl10, hM10, hcc10, hfr10⟩ := Kd.R_elem HO_3.out z42 (x4_1 : Int) p10 q10; obtain rfl := k42_openM hM10; have hx10_0 : w11.cell? ⟨go10, (x4_1 : Int).toNat * 4, none⟩ = some (.int .i64 ((rd_T42 x3_1 x4_1).f0)) := hcc10 0 _ rfl; have hx10_1 : w11.cell? ⟨go10, (x4_1 : Int).toNat * 4 + 1, none⟩ = some (.int .i64 ((rd_T42 x3_1 x4_1).f1)) := hcc10 1 _ rfl; have hx10_2 : w11.cell? ⟨go10, (x4_1 : Int).toNat * 4 + 2, none⟩ = some (.int .i64 ((rd_T42 x3_1 x4_1).f2)) := hcc10 2 _ rfl; have hx10_3 : w11.cell? ⟨go10, (x4_1 : Int).toNat * 4 + 3, none⟩ = some (.int .i64 ((rd_T42 x3_1 x4_1).f3)) := hcc10 3 _ rfl; have hf10_0 : w11.frozen? ⟨go10, (x4_1 : Int).toNat * 4, none⟩ = false := hfr10 0; have hf10_1 : w11.frozen? ⟨go10, (x4_1 : Int).toNat * 4 + 1, none⟩ = false := hfr10 1; have hf10_2 : w11.frozen? ⟨go10, (x4_1 : Int).toNat * 4 + 2, none⟩ = false := hfr10 2; have hf10_3 : w11.frozen? ⟨go10, (x4_1 : Int).toNat * 4 + 3, none⟩ = false := hfr10 3; clear hcl10 hcc10 hfr10 hM10; replace p10 := eq_true p10; replace q10 := eq_true q10; have HX12 := Aside0.mk (show Kd.R k42 42 w11 w.heap.size (fun _ => True) (.slice (some ⟨go10, 0, none⟩) x3_1.length co10) x3_1 from (kr HO_3.out)); obtain ⟨ce12, hcl12, hM12, hcc12, hfr12⟩ := Kd.R_elem HX12.out z42 (x4_1 : Int) (od) (by have h_ : (x4_1 : Int) < ((x3_1.length : Int) : Int) := od; first | exact h_ | (have e_ := (Kd.R_reads' HO_3.out).1; omega) | simpa using h_); obtain rfl := k42_openM hM12; have HP12 := Kd.R_seg HX12.out (x4_1 : Int) (od) (by have h_ : (x4_1 : Int) < ((x3_1.length : Int) : Int) := od; first | exact h_ | (have e_ := (Kd.R_reads' HO_3.out).1; omega) | simpa using h_) (seg := [.int .i64 t325, .int .i64 t326, .int .i64 t327, .int .i64 t328]) (j := 0) hcl12 hcc12 (show 4 ≤ 4 from by decide) (x' := (⟨t325, t326, t327, t328⟩ : S42)) (k42_mkM _ _ _ (⟨t325, t326, t327, t328⟩ : S42) ) (fun _ hk => hk); have hx12_0 := hcc12 0 _ rfl; (try simp only [show (k42).sz = 4 from rfl, Nat.mul_one, Nat.add_zero] at hx12_0); have hf12_0 := hfr12 0; (try simp only [show (k42).sz = 4 from rfl, Nat.mul_one, Nat.add_zero] at hf12_0); have hx12_1 := hcc12 1 _ rfl; (try simp only [show (k42).sz = 4 from rfl, Nat.mul_one, Nat.add_zero] at hx12_1); have hf12_1 := hfr12 1; (try simp only [show (k42).sz = 4 from rfl, Nat.mul_one, Nat.add_zero] at hf12_1); have hx12_2 := hcc12 2 _ rfl; (try simp only [show (k42).sz = 4 from rfl, Nat.mul_one, Nat.add_zero] at hx12_2); have hf12_2 := hfr12 2; (try simp only [show (k42).sz = 4 from rfl, Nat.mul_one, Nat.add_zero] at hf12_2); have hx12_3 := hcc12 3 _ rfl; (try simp only [show (k42).sz = 4 from rfl, Nat.mul_one, Nat.add_zero] at hx12_3); have hf12_3 := hfr12 3; (try simp only [show (k42).sz = 4 from rfl, Nat.mul_one, Nat.add_zero] at hf12_3); clear hcl12 hcc12 hfr12 hM12) | ((with_reducible refine gate_store (t := 42) (p := 21) rfl ?_); refine store_event (t := 42) (p := 21) (v := ?vo_w13) (w1 := ((((w11.setCell ⟨go10, (x4_1 : Int).toNat * 4, none⟩ (.int .i64 t325)).setCell ⟨go10, (x4_1 : Int).toNat * 4 + 1, none⟩ (.int .i64 t326)).setCell ⟨go10, (x4_1 : Int).toNat * 4 + 2, none⟩ (.int .i64 t327)).setCell ⟨go10, (x4_1 : Int).toNat * 4 + 3, none⟩ (.int .i64 t328))) ?hg ?ho ?hn ?hr ?_; (case ho => rfl); (case hg => rfl); (case hn => rfl); (case hr => first | (go_simp; done) | (go_simp; rfl)); intro w13 hw; have hg : w11.grownBy w13 (some go10) := (by rw [hw]; exact HP12.2); have hp_ : Kd.R k42 42 w13 w.heap.size (fun _ => True) (.slice (some ⟨go10, 0, none⟩) x3_1.length co10) y329 := (by rw [hw, Ny329.out]; exact HP12.1); clear HP12; replace HO_3 := Aside0.mk (hp_); replace HB := Aside0.mk ((by rw [hw]; exact below_set (below_set (below_set (below_set (HB.out) GB10.out) GB10.out) GB10.out) GB10.out : Below w.heap.size w w13)); clear hg hw hp_))
   go_roundg k1
   case measure => have := HK1.out; omega
   case rel => exact ⟨(y329), (wrap64 (x4_1 + 1)), rsd, H', ⟨by have := HK1.out; omega⟩, ⟨kr HO_3.out⟩, ⟨tb HB⟩⟩
def laws_toRows.f (k : Nat) (l0_0 : List Int) (a0_1 : Int) : Option (List Int × Int) := (laws_toIntS.f k l0_0).bind fun t387 => (some (t387, a0_1))
set_option maxHeartbeats 8000000 in
set_option maxRecDepth 100000 in
theorem laws_toRows.calls (k : Nat) (A0_0 : Option Addr) (c0_0 : Nat) (l0_0 : List Int) (a0_1 : Int) (r1 : List Int) (r2 : Int) (w : World) (hr0_0 : Kd.C (Kd.int .i64) w A0_0 l0_0.length l0_0) (hc0_0 : l0_0.length ≤ c0_0) (h : laws_toRows.f k l0_0 a0_1 = some (r1, r2)) :
  Calls Tryz.prog 92 #[.agg #[.slice A0_0 l0_0.length c0_0, .int .i64 a0_1]] w fun e w' => ∃ v0_ : Value, e = .returned (.agg #[v0_, .int .i64 r2]) ∧ Kd.R (Kd.int .i64) 3 w' w.heap.size (fun _ => True) v0_ r1 ∧ Below w.heap.size w w' := by
 have hu66 := Tryz.underlying66
 have hu73 := Tryz.underlying73
 have HR0_0 := Aside0.mk hr0_0
 have HC0_0 := Aside0.mk hc0_0
 clear hr0_0 hc0_0
 have HB := Aside0.mk (Below.refl w.heap.size w)
 have H := h
 clear h
 unfold laws_toRows.f at H
 obtain ⟨t387, A2, H⟩ := bn H
 try dsimp only at H
 simp only [Option.some.injEq, Prod.mk.injEq] at H
 obtain ⟨rfl, rfl⟩ := H
 go_enter Tryz.func92, Tryz.ntmps92
 go_wp2_with (first | ((with_reducible refine gq 1 rfl ?_); refine bx0 HB (N := 1) (t := 66) ?_; clear HB; intro gb384 w3 BK384 GE384 HB) | ((with_reducible refine gq 2 rfl ?_); refine bx1 HB BK384 (N := 2) (cs := #[.slice none 0 0, .int .i64 0]) (t := 73) ?_; clear HB BK384; intro gb385 w4 BK385 GE385 HB NB384_385 NB385_384 BK384) | ((with_reducible refine gq 3 rfl ?_); refine bx2 HB BK384 BK385 (N := 3) (cs := #[.slice none 0 0, .int .i64 0]) (t := 73) ?_; clear HB BK384 BK385; intro gb386 w5 BK386 GE386 HB NB384_386 NB386_384 BK384 NB385_386 NB386_385 BK385; have hnb6 := NB384_385.out; have hnc6 := NB385_384.out; have hnb7 := NB384_386.out; have hnc7 := NB386_384.out; have hz8 := cs2_ BK384) | ((with_reducible refine gf 91 rfl ?_); refine gL 6 Tryz.func91 #[.slice A0_0 l0_0.length c0_0] ?_; (with_reducible refine (laws_toIntS.calls k _ _ l0_0 t387 _ (kc HR0_0 HB) HC0_0.out A2.out).mono ?_); rintro e w9 ⟨v388, rfl, ho0, hb⟩; refine ⟨_, rfl, ?_⟩; have HO389 := Aside0.mk (Kd.R_lower ho0 (below_size (tb HB))); replace BK384 := bb BK384 hb; replace BK385 := bb BK385 hb; replace BK386 := bb BK386 hb; replace HB := bs HB hb; (try clear hb); (try clear ho0); obtain ⟨Ao10, co10, eo10⟩ := Kd.R_slice HO389.out; subst eo10; have hnb11 := NB386_385.out; have hnc11 := NB385_386.out; have hz12 := cs2_ BK386; have hz13 := cs2_ BK384; have hz14 := cs2_ BK385))
 refine bodyPost_ret (results_cell_row rfl _ _ gb385 73 #[.slice Ao10 t387.length co10, .int .i64 a0_1] (0, 0) _ rfl (bfp2 BK385) Tryz.underlying73 rfl (by kernel_rfl)) rfl ?_
 exact ⟨_, er, by (with_reducible repeat (first | apply Kd.R_alloc | apply Kd.R_drewN | apply Kd.R_drew)); exact Kd.R_mono (Kd.R_far (p := ⟨gb385, 1, none⟩) (Kd.R_far (p := ⟨gb385, 0, none⟩) (Kd.R_far (p := ⟨gb386, 1, none⟩) (Kd.R_far (p := ⟨gb386, 0, none⟩) (Kd.R_types (Kd.R_types HO389.out BK386.out (by decide)) BK385.out (by decide)) (fun _ hk => hk.1.2) (.slice Ao10 t387.length co10)) (fun _ hk => hk.1.2) (.int .i64 a0_1)) (fun _ hk => hk.2) (.slice Ao10 t387.length co10)) (fun _ hk => hk.2) (.int .i64 a0_1)) (fun _ hk => trivial), tb HB⟩
def laws_eqWordS.l0 : Nat → List (S39) → List (S39) → Int → Option (Bool)
 | 0, _, _, _ => none
 | k + 1, x0, x1, x5 => if x5 < (x0.length : Int) then (if 0 ≤ x5 then (if x5 < (x1.length : Int) then ((laws_eqWord.f ((rd_T39 x0 x5).f0) ((rd_T39 x0 x5).f1) ((rd_T39 x0 x5).f2) ((rd_T39 x1 x5).f0) ((rd_T39 x1 x5).f1) ((rd_T39 x1 x5).f2)).bind fun t513 => (if t513 = true then (laws_eqWordS.l0 k x0 x1 (wrap64 (x5 + 1))) else (some false))) else (none)) else (none)) else (some true)
def laws_eqWordS.f (k : Nat) (l0 : List (S39)) (l1 : List (S39)) : Option (Bool) := if (l0.length : Int) = (l1.length : Int) then (laws_eqWordS.l0 k l0 l1 0) else (some false)
def laws_eqWordS.T6 : Bool × List (List Nat × List Nat) := (true, [([], []), ([], []), ([0, 1], [0, 1]), ([2], [2]), ([], []), ([], []), ([4, 5], [4, 5]), ([6], [6]), ([3, 7], [3, 7]), ([8], [8])])
def laws_eqWordS.B6 : List Nat := [0, 0, 3, 7, 0, 0, 48, 112, 255, 511]
theorem laws_eqWordS.tab6 : rtab .any (opsOf Tryz.f152 6) = laws_eqWordS.T6 := by kernel_rfl
theorem laws_eqWordS.bits6 : waitsOk laws_eqWordS.T6.2 laws_eqWordS.B6 = true := by kernel_rfl
set_option maxHeartbeats 8000000 in
set_option maxRecDepth 100000 in
theorem laws_eqWordS.calls (k : Nat) (A0 : Option Addr) (c0 : Nat) (l0 : List (S39)) (A1 : Option Addr) (c1 : Nat) (l1 : List (S39)) (r : Bool) (w : World) (hr0 : Kd.C k39 w A0 l0.length l0) (hc0 : l0.length ≤ c0) (hr1 : Kd.C k39 w A1 l1.length l1) (hc1 : l1.length ≤ c1) (h : laws_eqWordS.f k l0 l1 = some r) :
  Calls Tryz.prog 152 #[.slice A0 l0.length c0, .slice A1 l1.length c1] w fun e w' => e = .returned (.bool r) ∧ Below w.heap.size w w' := by
 have hu39 := Tryz.underlying39
 have HR0 := Aside0.mk hr0
 have HC0 := Aside0.mk hc0
 clear hr0 hc0
 have HR1 := Aside0.mk hr1
 have HC1 := Aside0.mk hc1
 clear hr1 hc1
 have HB := Aside0.mk (Below.refl w.heap.size w)
 have H := h
 clear h
 unfold laws_eqWordS.f at H
 by_cases c3 : (l0.length : Int) = (l1.length : Int)
 case neg =>
  rw [if_neg c3] at H
  have c3b0 : ((l0.length : Int) == (l1.length : Int)) = false := beq_eq_false_iff_ne.mpr c3
  have c3b1 : ((l0.length : Int) != (l1.length : Int)) = true := bne_iff_ne.mpr c3
  have c3b2 : (l0.length == l1.length) = false := by first | simpa using c3 | (simp at c3 ⊢; omega)
  obtain rfl := oin H
  go_enter Tryz.func152, Tryz.ntmps152
  go_wp2
  go_ret
  exact ⟨er, tb HB⟩
 
 
 rw [if_pos c3] at H
 have c3b0 : ((l0.length : Int) == (l1.length : Int)) = true := beq_iff_eq.mpr c3
 have c3b1 : ((l0.length : Int) != (l1.length : Int)) = false := bne_eq_false_iff_eq.mpr c3
 have c3b2 : (l0.length == l1.length) = true := by first | simpa using c3 | (simp at c3 ⊢; omega)
 clear c3
 have H' := Aside0.mk H
 clear H
 go_enter Tryz.func152, Tryz.ntmps152
 go_wp2
 go_loopg [5] k (fun kq v5 w' => ∃ (x5_1 : Int), v5 = .int .i64 x5_1 ∧ Aside0 (laws_eqWordS.l0 kq l0 l1 x5_1 = some r) ∧ Aside0 (kq ≤ k) ∧ Aside0 (Below w.heap.size w w'))
 case atStart => exact ⟨(0), rsd, H', ⟨Nat.le_refl _⟩, ⟨tb HB⟩⟩
 case round =>
  clear H'
  obtain ⟨x5_1, rfl, HA, HK1, HB⟩ := hrel
  cases gk with
  | zero => exact absurd HA.out (by simp [laws_eqWordS.l0])
  | succ k1 =>
   have H := HA.out
   clear HA
   simp only [laws_eqWordS.l0] at H
   revert H; refine icd (fun c4b0 H => ?_) fun c4b0 H => ?neg
   case neg =>
    obtain rfl := oin H
    go_wp2
    go_ret
    exact ⟨er, tb HB⟩
   obtain ⟨c5b0, H⟩ := itd H
   obtain ⟨c6b0, H⟩ := itd H
   obtain ⟨t513, A7, H⟩ := bn H
   try dsimp only at H
   cases t513
   case false =>
    replace H := ipf H
    obtain rfl := oin H
    try go_wp2
    replace HB := Aside0.mk (below_drew1 HB.out)
    have p511 : 0 ≤ (x5_1 : Int) := od
    have q511 : x5_1 < (l0.length : Int) := od
    obtain ⟨ad511, e511, hx511⟩ := att39 HR0.out x5_1 p511 q511
    have hw511 := hx511
    cases e511
    replace hx511 := ox3 HB hx511
    replace p511 := eq_true p511
    replace q511 := eq_true q511
    have p512 : 0 ≤ (x5_1 : Int) := od
    have q512 : x5_1 < (l1.length : Int) := od
    obtain ⟨ad512, e512, hx512⟩ := att39 HR1.out x5_1 p512 q512
    have hw512 := hx512
    cases e512
    replace hx512 := ox3 HB hx512
    replace p512 := eq_true p512
    replace q512 := eq_true q512
    refine start_ (n := 10) (S := fun w' => eT39 (ad511.add ((x5_1).toNat * 3)) (rd_T39 l0 x5_1) w' ∧ eT39 (ad512.add ((x5_1).toNat * 3)) (rd_T39 l1 x5_1) w') (ds := []) #[false, false, false, false, false, false, false, false, false, false] (by kernel_rfl) rfl rfl ⟨(ox3 HB hw511 :), (ox3 HB hw512 :)⟩ (fun hHeld => ?_); refine with_tabW laws_eqWordS.tab6 laws_eqWordS.bits6 (fun HT_ HW_ => ?_)
    generalize wr.drew = w11 at HB hx511 hx512 hHeld ⊢
    refine pu 0 17 ?_; refine pu 1 18 ?_; refine pu 2 19 ?_; refine pu 4 21 ?_; refine pu 5 22 ?_; refine pu 6 23 ?_; refine ta 3 20 ?_; refine ta 7 24 ?_
    refine on1 8 (some 25) (fun K hK => ?_)
    refine gS Tryz.func182 #[.agg #[.int .i64 ((rd_T39 l0 x5_1).f0), .int .i64 ((rd_T39 l0 x5_1).f1), .int .i64 ((rd_T39 l0 x5_1).f2)], .agg #[.int .i64 ((rd_T39 l1 x5_1).f0), .int .i64 ((rd_T39 l1 x5_1).f1), .int .i64 ((rd_T39 l1 x5_1).f2)]] ?_
    with_reducible refine (laws_eqWord.calls ((rd_T39 l0 x5_1).f0) ((rd_T39 l0 x5_1).f1) ((rd_T39 l0 x5_1).f2) ((rd_T39 l1 x5_1).f0) ((rd_T39 l1 x5_1).f1) ((rd_T39 l1 x5_1).f2) false _ A7.out).mono ?_
    rintro e w12 ⟨rfl, hb⟩
    refine ⟨_, rfl, ?_⟩
    replace HB := bs HB hb
    (try clear hb)
    (try clear hb2)
    (try clear hk)
    (try clear hi)
    refine hK.out _ _ ⟨(ox3 HB hw511 :), (ox3 HB hw512 :)⟩ (fun hHeld => ?_)
    clear hK K
    refine nm 25 ?_
    refine pu 9 26 ?_
    refine done_ (done_of HT_.out (by kernel_rfl)) ?_
    try go_wp2
    go_ret
    exact ⟨er, tb HB⟩
   replace H := ipt H
   have H' := Aside0.mk H
   clear H
   try go_wp2
   replace HB := Aside0.mk (below_drew1 HB.out)
   have p511 : 0 ≤ (x5_1 : Int) := od
   have q511 : x5_1 < (l0.length : Int) := od
   obtain ⟨ad511, e511, hx511⟩ := att39 HR0.out x5_1 p511 q511
   have hw511 := hx511
   cases e511
   replace hx511 := ox3 HB hx511
   replace p511 := eq_true p511
   replace q511 := eq_true q511
   have p512 : 0 ≤ (x5_1 : Int) := od
   have q512 : x5_1 < (l1.length : Int) := od
   obtain ⟨ad512, e512, hx512⟩ := att39 HR1.out x5_1 p512 q512
   have hw512 := hx512
   cases e512
   replace hx512 := ox3 HB hx512
   replace p512 := eq_true p512
   replace q512 := eq_true q512
   refine start_ (n := 10) (S := fun w' => eT39 (ad511.add ((x5_1).toNat * 3)) (rd_T39 l0 x5_1) w' ∧ eT39 (ad512.add ((x5_1).toNat * 3)) (rd_T39 l1 x5_1) w') (ds := []) #[false, false, false, false, false, false, false, false, false, false] (by kernel_rfl) rfl rfl ⟨(ox3 HB hw511 :), (ox3 HB hw512 :)⟩ (fun hHeld => ?_); refine with_tabW laws_eqWordS.tab6 laws_eqWordS.bits6 (fun HT_ HW_ => ?_)
   generalize wr.drew = w9 at HB hx511 hx512 hHeld ⊢
   refine pu 0 17 ?_; refine pu 1 18 ?_; refine pu 2 19 ?_; refine pu 4 21 ?_; refine pu 5 22 ?_; refine pu 6 23 ?_; refine ta 3 20 ?_; refine ta 7 24 ?_
   refine on1 8 (some 25) (fun K hK => ?_)
   refine gS Tryz.func182 #[.agg #[.int .i64 ((rd_T39 l0 x5_1).f0), .int .i64 ((rd_T39 l0 x5_1).f1), .int .i64 ((rd_T39 l0 x5_1).f2)], .agg #[.int .i64 ((rd_T39 l1 x5_1).f0), .int .i64 ((rd_T39 l1 x5_1).f1), .int .i64 ((rd_T39 l1 x5_1).f2)]] ?_
   with_reducible refine (laws_eqWord.calls ((rd_T39 l0 x5_1).f0) ((rd_T39 l0 x5_1).f1) ((rd_T39 l0 x5_1).f2) ((rd_T39 l1 x5_1).f0) ((rd_T39 l1 x5_1).f1) ((rd_T39 l1 x5_1).f2) true _ A7.out).mono ?_
   rintro e w10 ⟨rfl, hb⟩
   refine ⟨_, rfl, ?_⟩
   replace HB := bs HB hb
   (try clear hb)
   (try clear hb2)
   (try clear hk)
   (try clear hi)
   refine hK.out _ _ ⟨(ox3 HB hw511 :), (ox3 HB hw512 :)⟩ (fun hHeld => ?_)
   clear hK K
   refine nm 25 ?_
   refine pu 9 26 ?_
   refine done_ (done_of HT_.out (by kernel_rfl)) ?_
   try go_wp2
   go_roundg k1
   case measure => have := HK1.out; omega
   case rel => exact ⟨(wrap64 (x5_1 + 1)), rsd, H', ⟨by have := HK1.out; omega⟩, ⟨tb HB⟩⟩
def laws_eqRes.f (k : Nat) (a0_0 : Int) (l0_1 : List Int) (a1_0 : Int) (l1_1 : List Int) : Option (Bool) := if a0_0 = a1_0 then ((laws_eqIntS.f k l0_1 l1_1).bind fun t518 => (if t518 = true then (some true) else (some false))) else (some false)
set_option maxHeartbeats 8000000 in
set_option maxRecDepth 100000 in
theorem laws_eqRes.calls (k : Nat) (a0_0 : Int) (A0_1 : Option Addr) (c0_1 : Nat) (l0_1 : List Int) (a1_0 : Int) (A1_1 : Option Addr) (c1_1 : Nat) (l1_1 : List Int) (r : Bool) (w : World) (hr0_1 : Kd.C (Kd.int .i64) w A0_1 l0_1.length l0_1) (hc0_1 : l0_1.length ≤ c0_1) (hr1_1 : Kd.C (Kd.int .i64) w A1_1 l1_1.length l1_1) (hc1_1 : l1_1.length ≤ c1_1) (h : laws_eqRes.f k a0_0 l0_1 a1_0 l1_1 = some r) :
  Calls Tryz.prog 188 #[.agg #[.int .i64 a0_0, .slice A0_1 l0_1.length c0_1], .agg #[.int .i64 a1_0, .slice A1_1 l1_1.length c1_1]] w fun e w' => e = .returned (.bool r) ∧ Below w.heap.size w w' := by
 have hu31 := Tryz.underlying31
 have HR0_1 := Aside0.mk hr0_1
 have HC0_1 := Aside0.mk hc0_1
 clear hr0_1 hc0_1
 have HR1_1 := Aside0.mk hr1_1
 have HC1_1 := Aside0.mk hc1_1
 clear hr1_1 hc1_1
 have HB := Aside0.mk (Below.refl w.heap.size w)
 have H := h
 clear h
 unfold laws_eqRes.f at H
 by_cases c3 : a0_0 = a1_0
 case neg =>
  rw [if_neg c3] at H
  have c3b0 : (a0_0 == a1_0) = false := beq_eq_false_iff_ne.mpr c3
  have c3b1 : (a0_0 != a1_0) = true := bne_iff_ne.mpr c3
  obtain rfl := oin H
  go_enter Tryz.func188, Tryz.ntmps188
  go_wp2_with (first | ((with_reducible refine gq 2 rfl ?_); refine bx0 HB (N := 2) (t := 31) ?_; clear HB; intro gb516 w16 BK516 GE516 HB) | ((with_reducible refine gq 3 rfl ?_); refine bx1 HB BK516 (N := 3) (t := 31) ?_; clear HB BK516; intro gb517 w17 BK517 GE517 HB NB516_517 NB517_516 BK516; have hnb18 := NB516_517.out; have hnc18 := NB517_516.out; have hz19 := cs2_ BK516; have hz20 := cs2_ BK517))
  go_ret
  exact ⟨er, tb HB⟩
 
 
 rw [if_pos c3] at H
 have c3b0 : (a0_0 == a1_0) = true := beq_iff_eq.mpr c3
 have c3b1 : (a0_0 != a1_0) = false := bne_eq_false_iff_eq.mpr c3
 clear c3
 obtain ⟨t518, A4, H⟩ := bn H
 try dsimp only at H
 cases t518
 case true =>
  replace H := ipt H
  obtain rfl := oin H
  go_enter Tryz.func188, Tryz.ntmps188
  go_wp2_with (first | ((with_reducible refine gq 2 rfl ?_); refine bx0 HB (N := 2) (t := 31) ?_; clear HB; intro gb516 w6 BK516 GE516 HB) | ((with_reducible refine gq 3 rfl ?_); refine bx1 HB BK516 (N := 3) (t := 31) ?_; clear HB BK516; intro gb517 w7 BK517 GE517 HB NB516_517 NB517_516 BK516; have hnb8 := NB516_517.out; have hnc8 := NB517_516.out; have hz9 := cs2_ BK516; have hz10 := cs2_ BK517) | ((with_reducible refine gf 101 rfl ?_); refine gL 14 Tryz.func101 #[.slice A0_1 l0_1.length c0_1, .slice A1_1 l1_1.length c1_1] ?_; (with_reducible refine (laws_eqIntS.calls k _ _ l0_1 _ _ l1_1 true _ (kc HR0_1 HB) HC0_1.out (kc HR1_1 HB) HC1_1.out A4.out).mono ?_); rintro e w' ⟨rfl, ⟨nd, rfl⟩⟩; refine ⟨_, rfl, ?_⟩))
  go_ret
  exact ⟨er, tb HB⟩
 replace H := ipf H
 obtain rfl := oin H
 go_enter Tryz.func188, Tryz.ntmps188
 go_wp2_with (first | ((with_reducible refine gq 2 rfl ?_); refine bx0 HB (N := 2) (t := 31) ?_; clear HB; intro gb516 w11 BK516 GE516 HB) | ((with_reducible refine gq 3 rfl ?_); refine bx1 HB BK516 (N := 3) (t := 31) ?_; clear HB BK516; intro gb517 w12 BK517 GE517 HB NB516_517 NB517_516 BK516; have hnb13 := NB516_517.out; have hnc13 := NB517_516.out; have hz14 := cs2_ BK516; have hz15 := cs2_ BK517) | ((with_reducible refine gf 101 rfl ?_); refine gL 14 Tryz.func101 #[.slice A0_1 l0_1.length c0_1, .slice A1_1 l1_1.length c1_1] ?_; (with_reducible refine (laws_eqIntS.calls k _ _ l0_1 _ _ l1_1 false _ (kc HR0_1 HB) HC0_1.out (kc HR1_1 HB) HC1_1.out A4.out).mono ?_); rintro e w' ⟨rfl, ⟨nd, rfl⟩⟩; refine ⟨_, rfl, ?_⟩))
 go_ret
 exact ⟨er, tb HB⟩
def laws_eqEntryS.l0 : Nat → List (S37) → List (S37) → Int → Option (Bool)
 | 0, _, _, _ => none
 | k + 1, x0, x1, x5 => if x5 < (x0.length : Int) then (if 0 ≤ x5 then (if x5 < (x1.length : Int) then ((laws_eqEntry.f ((rd_T37 x0 x5).f0) ((rd_T37 x0 x5).f1) ((rd_T37 x0 x5).f2) ((rd_T37 x1 x5).f0) ((rd_T37 x1 x5).f1) ((rd_T37 x1 x5).f2)).bind fun t523 => (if t523 = true then (laws_eqEntryS.l0 k x0 x1 (wrap64 (x5 + 1))) else (some false))) else (none)) else (none)) else (some true)
def laws_eqEntryS.f (k : Nat) (l0 : List (S37)) (l1 : List (S37)) : Option (Bool) := if (l0.length : Int) = (l1.length : Int) then (laws_eqEntryS.l0 k l0 l1 0) else (some false)
def laws_eqEntryS.T6 : Bool × List (List Nat × List Nat) := (true, [([], []), ([], []), ([0, 1], [0, 1]), ([2], [2]), ([], []), ([], []), ([4, 5], [4, 5]), ([6], [6]), ([3, 7], [3, 7]), ([8], [8])])
def laws_eqEntryS.B6 : List Nat := [0, 0, 3, 7, 0, 0, 48, 112, 255, 511]
theorem laws_eqEntryS.tab6 : rtab .any (opsOf Tryz.f194 6) = laws_eqEntryS.T6 := by kernel_rfl
theorem laws_eqEntryS.bits6 : waitsOk laws_eqEntryS.T6.2 laws_eqEntryS.B6 = true := by kernel_rfl
set_option maxHeartbeats 8000000 in
set_option maxRecDepth 100000 in
theorem laws_eqEntryS.calls (k : Nat) (A0 : Option Addr) (c0 : Nat) (l0 : List (S37)) (A1 : Option Addr) (c1 : Nat) (l1 : List (S37)) (r : Bool) (w : World) (hr0 : Kd.C k37 w A0 l0.length l0) (hc0 : l0.length ≤ c0) (hr1 : Kd.C k37 w A1 l1.length l1) (hc1 : l1.length ≤ c1) (h : laws_eqEntryS.f k l0 l1 = some r) :
  Calls Tryz.prog 194 #[.slice A0 l0.length c0, .slice A1 l1.length c1] w fun e w' => e = .returned (.bool r) ∧ Below w.heap.size w w' := by
 have hu37 := Tryz.underlying37
 have HR0 := Aside0.mk hr0
 have HC0 := Aside0.mk hc0
 clear hr0 hc0
 have HR1 := Aside0.mk hr1
 have HC1 := Aside0.mk hc1
 clear hr1 hc1
 have HB := Aside0.mk (Below.refl w.heap.size w)
 have H := h
 clear h
 unfold laws_eqEntryS.f at H
 by_cases c3 : (l0.length : Int) = (l1.length : Int)
 case neg =>
  rw [if_neg c3] at H
  have c3b0 : ((l0.length : Int) == (l1.length : Int)) = false := beq_eq_false_iff_ne.mpr c3
  have c3b1 : ((l0.length : Int) != (l1.length : Int)) = true := bne_iff_ne.mpr c3
  have c3b2 : (l0.length == l1.length) = false := by first | simpa using c3 | (simp at c3 ⊢; omega)
  obtain rfl := oin H
  go_enter Tryz.func194, Tryz.ntmps194
  go_wp2
  go_ret
  exact ⟨er, tb HB⟩
 
 
 rw [if_pos c3] at H
 have c3b0 : ((l0.length : Int) == (l1.length : Int)) = true := beq_iff_eq.mpr c3
 have c3b1 : ((l0.length : Int) != (l1.length : Int)) = false := bne_eq_false_iff_eq.mpr c3
 have c3b2 : (l0.length == l1.length) = true := by first | simpa using c3 | (simp at c3 ⊢; omega)
 clear c3
 have H' := Aside0.mk H
 clear H
 go_enter Tryz.func194, Tryz.ntmps194
 go_wp2
 go_loopg [5] k (fun kq v5 w' => ∃ (x5_1 : Int), v5 = .int .i64 x5_1 ∧ Aside0 (laws_eqEntryS.l0 kq l0 l1 x5_1 = some r) ∧ Aside0 (kq ≤ k) ∧ Aside0 (Below w.heap.size w w'))
 case atStart => exact ⟨(0), rsd, H', ⟨Nat.le_refl _⟩, ⟨tb HB⟩⟩
 case round =>
  clear H'
  obtain ⟨x5_1, rfl, HA, HK1, HB⟩ := hrel
  cases gk with
  | zero => exact absurd HA.out (by simp [laws_eqEntryS.l0])
  | succ k1 =>
   have H := HA.out
   clear HA
   simp only [laws_eqEntryS.l0] at H
   revert H; refine icd (fun c4b0 H => ?_) fun c4b0 H => ?neg
   case neg =>
    obtain rfl := oin H
    go_wp2
    go_ret
    exact ⟨er, tb HB⟩
   obtain ⟨c5b0, H⟩ := itd H
   obtain ⟨c6b0, H⟩ := itd H
   obtain ⟨t523, A7, H⟩ := bn H
   try dsimp only at H
   cases t523
   case false =>
    replace H := ipf H
    obtain rfl := oin H
    try go_wp2
    replace HB := Aside0.mk (below_drew1 HB.out)
    have p521 : 0 ≤ (x5_1 : Int) := od
    have q521 : x5_1 < (l0.length : Int) := od
    obtain ⟨ad521, e521, hx521⟩ := att37 HR0.out x5_1 p521 q521
    have hw521 := hx521
    cases e521
    replace hx521 := ox3 HB hx521
    replace p521 := eq_true p521
    replace q521 := eq_true q521
    have p522 : 0 ≤ (x5_1 : Int) := od
    have q522 : x5_1 < (l1.length : Int) := od
    obtain ⟨ad522, e522, hx522⟩ := att37 HR1.out x5_1 p522 q522
    have hw522 := hx522
    cases e522
    replace hx522 := ox3 HB hx522
    replace p522 := eq_true p522
    replace q522 := eq_true q522
    refine start_ (n := 10) (S := fun w' => eT37 (ad521.add ((x5_1).toNat * 3)) (rd_T37 l0 x5_1) w' ∧ eT37 (ad522.add ((x5_1).toNat * 3)) (rd_T37 l1 x5_1) w') (ds := []) #[false, false, false, false, false, false, false, false, false, false] (by kernel_rfl) rfl rfl ⟨(ox3 HB hw521 :), (ox3 HB hw522 :)⟩ (fun hHeld => ?_); refine with_tabW laws_eqEntryS.tab6 laws_eqEntryS.bits6 (fun HT_ HW_ => ?_)
    generalize wr.drew = w11 at HB hx521 hx522 hHeld ⊢
    refine pu 0 17 ?_; refine pu 1 18 ?_; refine pu 2 19 ?_; refine pu 4 21 ?_; refine pu 5 22 ?_; refine pu 6 23 ?_; refine ta 3 20 ?_; refine ta 7 24 ?_
    refine on1 8 (some 25) (fun K hK => ?_)
    refine gS Tryz.func202 #[.agg #[.int .i64 ((rd_T37 l0 x5_1).f0), .int .i64 ((rd_T37 l0 x5_1).f1), .int .i64 ((rd_T37 l0 x5_1).f2)], .agg #[.int .i64 ((rd_T37 l1 x5_1).f0), .int .i64 ((rd_T37 l1 x5_1).f1), .int .i64 ((rd_T37 l1 x5_1).f2)]] ?_
    with_reducible refine (laws_eqEntry.calls ((rd_T37 l0 x5_1).f0) ((rd_T37 l0 x5_1).f1) ((rd_T37 l0 x5_1).f2) ((rd_T37 l1 x5_1).f0) ((rd_T37 l1 x5_1).f1) ((rd_T37 l1 x5_1).f2) false _ A7.out).mono ?_
    rintro e w12 ⟨rfl, hb⟩
    refine ⟨_, rfl, ?_⟩
    replace HB := bs HB hb
    (try clear hb)
    (try clear hb2)
    (try clear hk)
    (try clear hi)
    refine hK.out _ _ ⟨(ox3 HB hw521 :), (ox3 HB hw522 :)⟩ (fun hHeld => ?_)
    clear hK K
    refine nm 25 ?_
    refine pu 9 26 ?_
    refine done_ (done_of HT_.out (by kernel_rfl)) ?_
    try go_wp2
    go_ret
    exact ⟨er, tb HB⟩
   replace H := ipt H
   have H' := Aside0.mk H
   clear H
   try go_wp2
   replace HB := Aside0.mk (below_drew1 HB.out)
   have p521 : 0 ≤ (x5_1 : Int) := od
   have q521 : x5_1 < (l0.length : Int) := od
   obtain ⟨ad521, e521, hx521⟩ := att37 HR0.out x5_1 p521 q521
   have hw521 := hx521
   cases e521
   replace hx521 := ox3 HB hx521
   replace p521 := eq_true p521
   replace q521 := eq_true q521
   have p522 : 0 ≤ (x5_1 : Int) := od
   have q522 : x5_1 < (l1.length : Int) := od
   obtain ⟨ad522, e522, hx522⟩ := att37 HR1.out x5_1 p522 q522
   have hw522 := hx522
   cases e522
   replace hx522 := ox3 HB hx522
   replace p522 := eq_true p522
   replace q522 := eq_true q522
   refine start_ (n := 10) (S := fun w' => eT37 (ad521.add ((x5_1).toNat * 3)) (rd_T37 l0 x5_1) w' ∧ eT37 (ad522.add ((x5_1).toNat * 3)) (rd_T37 l1 x5_1) w') (ds := []) #[false, false, false, false, false, false, false, false, false, false] (by kernel_rfl) rfl rfl ⟨(ox3 HB hw521 :), (ox3 HB hw522 :)⟩ (fun hHeld => ?_); refine with_tabW laws_eqEntryS.tab6 laws_eqEntryS.bits6 (fun HT_ HW_ => ?_)
   generalize wr.drew = w9 at HB hx521 hx522 hHeld ⊢
   refine pu 0 17 ?_; refine pu 1 18 ?_; refine pu 2 19 ?_; refine pu 4 21 ?_; refine pu 5 22 ?_; refine pu 6 23 ?_; refine ta 3 20 ?_; refine ta 7 24 ?_
   refine on1 8 (some 25) (fun K hK => ?_)
   refine gS Tryz.func202 #[.agg #[.int .i64 ((rd_T37 l0 x5_1).f0), .int .i64 ((rd_T37 l0 x5_1).f1), .int .i64 ((rd_T37 l0 x5_1).f2)], .agg #[.int .i64 ((rd_T37 l1 x5_1).f0), .int .i64 ((rd_T37 l1 x5_1).f1), .int .i64 ((rd_T37 l1 x5_1).f2)]] ?_
   with_reducible refine (laws_eqEntry.calls ((rd_T37 l0 x5_1).f0) ((rd_T37 l0 x5_1).f1) ((rd_T37 l0 x5_1).f2) ((rd_T37 l1 x5_1).f0) ((rd_T37 l1 x5_1).f1) ((rd_T37 l1 x5_1).f2) true _ A7.out).mono ?_
   rintro e w10 ⟨rfl, hb⟩
   refine ⟨_, rfl, ?_⟩
   replace HB := bs HB hb
   (try clear hb)
   (try clear hb2)
   (try clear hk)
   (try clear hi)
   refine hK.out _ _ ⟨(ox3 HB hw521 :), (ox3 HB hw522 :)⟩ (fun hHeld => ?_)
   clear hK K
   refine nm 25 ?_
   refine pu 9 26 ?_
   refine done_ (done_of HT_.out (by kernel_rfl)) ?_
   try go_wp2
   go_roundg k1
   case measure => have := HK1.out; omega
   case rel => exact ⟨(wrap64 (x5_1 + 1)), rsd, H', ⟨by have := HK1.out; omega⟩, ⟨tb HB⟩⟩
def laws_eqOpS.l0 : Nat → List (S132) → List (S132) → Int → Option (Bool)
 | 0, _, _, _ => none
 | k + 1, x0, x1, x5 => if x5 < (x0.length : Int) then (if 0 ≤ x5 then (if x5 < (x1.length : Int) then ((laws_eqOp.f ((rd_T132 x0 x5).f0) ((rd_T132 x0 x5).f1) ((rd_T132 x0 x5).f2) ((rd_T132 x1 x5).f0) ((rd_T132 x1 x5).f1) ((rd_T132 x1 x5).f2)).bind fun t539 => (if t539 = true then (laws_eqOpS.l0 k x0 x1 (wrap64 (x5 + 1))) else (some false))) else (none)) else (none)) else (some true)
def laws_eqOpS.f (k : Nat) (l0 : List (S132)) (l1 : List (S132)) : Option (Bool) := if (l0.length : Int) = (l1.length : Int) then (laws_eqOpS.l0 k l0 l1 0) else (some false)
def laws_eqOpS.T6 : Bool × List (List Nat × List Nat) := (true, [([], []), ([], []), ([0, 1], [0, 1]), ([2], [2]), ([], []), ([], []), ([4, 5], [4, 5]), ([6], [6]), ([3, 7], [3, 7]), ([8], [8])])
def laws_eqOpS.B6 : List Nat := [0, 0, 3, 7, 0, 0, 48, 112, 255, 511]
theorem laws_eqOpS.tab6 : rtab .any (opsOf Tryz.f184 6) = laws_eqOpS.T6 := by kernel_rfl
theorem laws_eqOpS.bits6 : waitsOk laws_eqOpS.T6.2 laws_eqOpS.B6 = true := by kernel_rfl
set_option maxHeartbeats 8000000 in
set_option maxRecDepth 100000 in
theorem laws_eqOpS.calls (k : Nat) (A0 : Option Addr) (c0 : Nat) (l0 : List (S132)) (A1 : Option Addr) (c1 : Nat) (l1 : List (S132)) (r : Bool) (w : World) (hr0 : Kd.C k132 w A0 l0.length l0) (hc0 : l0.length ≤ c0) (hr1 : Kd.C k132 w A1 l1.length l1) (hc1 : l1.length ≤ c1) (h : laws_eqOpS.f k l0 l1 = some r) :
  Calls Tryz.prog 184 #[.slice A0 l0.length c0, .slice A1 l1.length c1] w fun e w' => e = .returned (.bool r) ∧ Below w.heap.size w w' := by
 have hu132 := Tryz.underlying132
 have HR0 := Aside0.mk hr0
 have HC0 := Aside0.mk hc0
 clear hr0 hc0
 have HR1 := Aside0.mk hr1
 have HC1 := Aside0.mk hc1
 clear hr1 hc1
 have HB := Aside0.mk (Below.refl w.heap.size w)
 have H := h
 clear h
 unfold laws_eqOpS.f at H
 by_cases c3 : (l0.length : Int) = (l1.length : Int)
 case neg =>
  rw [if_neg c3] at H
  have c3b0 : ((l0.length : Int) == (l1.length : Int)) = false := beq_eq_false_iff_ne.mpr c3
  have c3b1 : ((l0.length : Int) != (l1.length : Int)) = true := bne_iff_ne.mpr c3
  have c3b2 : (l0.length == l1.length) = false := by first | simpa using c3 | (simp at c3 ⊢; omega)
  obtain rfl := oin H
  go_enter Tryz.func184, Tryz.ntmps184
  go_wp2
  go_ret
  exact ⟨er, tb HB⟩
 
 
 rw [if_pos c3] at H
 have c3b0 : ((l0.length : Int) == (l1.length : Int)) = true := beq_iff_eq.mpr c3
 have c3b1 : ((l0.length : Int) != (l1.length : Int)) = false := bne_eq_false_iff_eq.mpr c3
 have c3b2 : (l0.length == l1.length) = true := by first | simpa using c3 | (simp at c3 ⊢; omega)
 clear c3
 have H' := Aside0.mk H
 clear H
 go_enter Tryz.func184, Tryz.ntmps184
 go_wp2
 go_loopg [5] k (fun kq v5 w' => ∃ (x5_1 : Int), v5 = .int .i64 x5_1 ∧ Aside0 (laws_eqOpS.l0 kq l0 l1 x5_1 = some r) ∧ Aside0 (kq ≤ k) ∧ Aside0 (Below w.heap.size w w'))
 case atStart => exact ⟨(0), rsd, H', ⟨Nat.le_refl _⟩, ⟨tb HB⟩⟩
 case round =>
  clear H'
  obtain ⟨x5_1, rfl, HA, HK1, HB⟩ := hrel
  cases gk with
  | zero => exact absurd HA.out (by simp [laws_eqOpS.l0])
  | succ k1 =>
   have H := HA.out
   clear HA
   simp only [laws_eqOpS.l0] at H
   revert H; refine icd (fun c4b0 H => ?_) fun c4b0 H => ?neg
   case neg =>
    obtain rfl := oin H
    go_wp2
    go_ret
    exact ⟨er, tb HB⟩
   obtain ⟨c5b0, H⟩ := itd H
   obtain ⟨c6b0, H⟩ := itd H
   obtain ⟨t539, A7, H⟩ := bn H
   try dsimp only at H
   cases t539
   case false =>
    replace H := ipf H
    obtain rfl := oin H
    try go_wp2
    replace HB := Aside0.mk (below_drew1 HB.out)
    have p537 : 0 ≤ (x5_1 : Int) := od
    have q537 : x5_1 < (l0.length : Int) := od
    obtain ⟨ad537, e537, hx537⟩ := att132 HR0.out x5_1 p537 q537
    have hw537 := hx537
    cases e537
    replace hx537 := ox3 HB hx537
    replace p537 := eq_true p537
    replace q537 := eq_true q537
    have p538 : 0 ≤ (x5_1 : Int) := od
    have q538 : x5_1 < (l1.length : Int) := od
    obtain ⟨ad538, e538, hx538⟩ := att132 HR1.out x5_1 p538 q538
    have hw538 := hx538
    cases e538
    replace hx538 := ox3 HB hx538
    replace p538 := eq_true p538
    replace q538 := eq_true q538
    refine start_ (n := 10) (S := fun w' => eT132 (ad537.add ((x5_1).toNat * 3)) (rd_T132 l0 x5_1) w' ∧ eT132 (ad538.add ((x5_1).toNat * 3)) (rd_T132 l1 x5_1) w') (ds := []) #[false, false, false, false, false, false, false, false, false, false] (by kernel_rfl) rfl rfl ⟨(ox3 HB hw537 :), (ox3 HB hw538 :)⟩ (fun hHeld => ?_); refine with_tabW laws_eqOpS.tab6 laws_eqOpS.bits6 (fun HT_ HW_ => ?_)
    generalize wr.drew = w11 at HB hx537 hx538 hHeld ⊢
    refine pu 0 17 ?_; refine pu 1 18 ?_; refine pu 2 19 ?_; refine pu 4 21 ?_; refine pu 5 22 ?_; refine pu 6 23 ?_; refine ta 3 20 ?_; refine ta 7 24 ?_
    refine on1 8 (some 25) (fun K hK => ?_)
    refine gS Tryz.func187 #[.agg #[.int .i64 ((rd_T132 l0 x5_1).f0), .int .i64 ((rd_T132 l0 x5_1).f1), .int .i64 ((rd_T132 l0 x5_1).f2)], .agg #[.int .i64 ((rd_T132 l1 x5_1).f0), .int .i64 ((rd_T132 l1 x5_1).f1), .int .i64 ((rd_T132 l1 x5_1).f2)]] ?_
    with_reducible refine (laws_eqOp.calls ((rd_T132 l0 x5_1).f0) ((rd_T132 l0 x5_1).f1) ((rd_T132 l0 x5_1).f2) ((rd_T132 l1 x5_1).f0) ((rd_T132 l1 x5_1).f1) ((rd_T132 l1 x5_1).f2) false _ A7.out).mono ?_
    rintro e w12 ⟨rfl, hb⟩
    refine ⟨_, rfl, ?_⟩
    replace HB := bs HB hb
    (try clear hb)
    (try clear hb2)
    (try clear hk)
    (try clear hi)
    refine hK.out _ _ ⟨(ox3 HB hw537 :), (ox3 HB hw538 :)⟩ (fun hHeld => ?_)
    clear hK K
    refine nm 25 ?_
    refine pu 9 26 ?_
    refine done_ (done_of HT_.out (by kernel_rfl)) ?_
    try go_wp2
    go_ret
    exact ⟨er, tb HB⟩
   replace H := ipt H
   have H' := Aside0.mk H
   clear H
   try go_wp2
   replace HB := Aside0.mk (below_drew1 HB.out)
   have p537 : 0 ≤ (x5_1 : Int) := od
   have q537 : x5_1 < (l0.length : Int) := od
   obtain ⟨ad537, e537, hx537⟩ := att132 HR0.out x5_1 p537 q537
   have hw537 := hx537
   cases e537
   replace hx537 := ox3 HB hx537
   replace p537 := eq_true p537
   replace q537 := eq_true q537
   have p538 : 0 ≤ (x5_1 : Int) := od
   have q538 : x5_1 < (l1.length : Int) := od
   obtain ⟨ad538, e538, hx538⟩ := att132 HR1.out x5_1 p538 q538
   have hw538 := hx538
   cases e538
   replace hx538 := ox3 HB hx538
   replace p538 := eq_true p538
   replace q538 := eq_true q538
   refine start_ (n := 10) (S := fun w' => eT132 (ad537.add ((x5_1).toNat * 3)) (rd_T132 l0 x5_1) w' ∧ eT132 (ad538.add ((x5_1).toNat * 3)) (rd_T132 l1 x5_1) w') (ds := []) #[false, false, false, false, false, false, false, false, false, false] (by kernel_rfl) rfl rfl ⟨(ox3 HB hw537 :), (ox3 HB hw538 :)⟩ (fun hHeld => ?_); refine with_tabW laws_eqOpS.tab6 laws_eqOpS.bits6 (fun HT_ HW_ => ?_)
   generalize wr.drew = w9 at HB hx537 hx538 hHeld ⊢
   refine pu 0 17 ?_; refine pu 1 18 ?_; refine pu 2 19 ?_; refine pu 4 21 ?_; refine pu 5 22 ?_; refine pu 6 23 ?_; refine ta 3 20 ?_; refine ta 7 24 ?_
   refine on1 8 (some 25) (fun K hK => ?_)
   refine gS Tryz.func187 #[.agg #[.int .i64 ((rd_T132 l0 x5_1).f0), .int .i64 ((rd_T132 l0 x5_1).f1), .int .i64 ((rd_T132 l0 x5_1).f2)], .agg #[.int .i64 ((rd_T132 l1 x5_1).f0), .int .i64 ((rd_T132 l1 x5_1).f1), .int .i64 ((rd_T132 l1 x5_1).f2)]] ?_
   with_reducible refine (laws_eqOp.calls ((rd_T132 l0 x5_1).f0) ((rd_T132 l0 x5_1).f1) ((rd_T132 l0 x5_1).f2) ((rd_T132 l1 x5_1).f0) ((rd_T132 l1 x5_1).f1) ((rd_T132 l1 x5_1).f2) true _ A7.out).mono ?_
   rintro e w10 ⟨rfl, hb⟩
   refine ⟨_, rfl, ?_⟩
   replace HB := bs HB hb
   (try clear hb)
   (try clear hb2)
   (try clear hk)
   (try clear hi)
   refine hK.out _ _ ⟨(ox3 HB hw537 :), (ox3 HB hw538 :)⟩ (fun hHeld => ?_)
   clear hK K
   refine nm 25 ?_
   refine pu 9 26 ?_
   refine done_ (done_of HT_.out (by kernel_rfl)) ?_
   try go_wp2
   go_roundg k1
   case measure => have := HK1.out; omega
   case rel => exact ⟨(wrap64 (x5_1 + 1)), rsd, H', ⟨by have := HK1.out; omega⟩, ⟨tb HB⟩⟩
def laws_eqPairS.l0 : Nat → List (S145) → List (S145) → Int → Option (Bool)
 | 0, _, _, _ => none
 | k + 1, x0, x1, x5 => if x5 < (x0.length : Int) then (if 0 ≤ x5 then (if x5 < (x1.length : Int) then ((laws_eqPair.f ((rd_T145 x0 x5).f0) ((rd_T145 x0 x5).f1) ((rd_T145 x1 x5).f0) ((rd_T145 x1 x5).f1)).bind fun t544 => (if t544 = true then (laws_eqPairS.l0 k x0 x1 (wrap64 (x5 + 1))) else (some false))) else (none)) else (none)) else (some true)
def laws_eqPairS.f (k : Nat) (l0 : List (S145)) (l1 : List (S145)) : Option (Bool) := if (l0.length : Int) = (l1.length : Int) then (laws_eqPairS.l0 k l0 l1 0) else (some false)
def laws_eqPairS.T6 : Bool × List (List Nat × List Nat) := (true, [([], []), ([], []), ([0, 1], [0, 1]), ([2], [2]), ([], []), ([], []), ([4, 5], [4, 5]), ([6], [6]), ([3, 7], [3, 7]), ([8], [8])])
def laws_eqPairS.B6 : List Nat := [0, 0, 3, 7, 0, 0, 48, 112, 255, 511]
theorem laws_eqPairS.tab6 : rtab .any (opsOf Tryz.f185 6) = laws_eqPairS.T6 := by kernel_rfl
theorem laws_eqPairS.bits6 : waitsOk laws_eqPairS.T6.2 laws_eqPairS.B6 = true := by kernel_rfl
set_option maxHeartbeats 8000000 in
set_option maxRecDepth 100000 in
theorem laws_eqPairS.calls (k : Nat) (A0 : Option Addr) (c0 : Nat) (l0 : List (S145)) (A1 : Option Addr) (c1 : Nat) (l1 : List (S145)) (r : Bool) (w : World) (hr0 : Kd.C k145 w A0 l0.length l0) (hc0 : l0.length ≤ c0) (hr1 : Kd.C k145 w A1 l1.length l1) (hc1 : l1.length ≤ c1) (h : laws_eqPairS.f k l0 l1 = some r) :
  Calls Tryz.prog 185 #[.slice A0 l0.length c0, .slice A1 l1.length c1] w fun e w' => e = .returned (.bool r) ∧ Below w.heap.size w w' := by
 have hu145 := Tryz.underlying145
 have HR0 := Aside0.mk hr0
 have HC0 := Aside0.mk hc0
 clear hr0 hc0
 have HR1 := Aside0.mk hr1
 have HC1 := Aside0.mk hc1
 clear hr1 hc1
 have HB := Aside0.mk (Below.refl w.heap.size w)
 have H := h
 clear h
 unfold laws_eqPairS.f at H
 by_cases c3 : (l0.length : Int) = (l1.length : Int)
 case neg =>
  rw [if_neg c3] at H
  have c3b0 : ((l0.length : Int) == (l1.length : Int)) = false := beq_eq_false_iff_ne.mpr c3
  have c3b1 : ((l0.length : Int) != (l1.length : Int)) = true := bne_iff_ne.mpr c3
  have c3b2 : (l0.length == l1.length) = false := by first | simpa using c3 | (simp at c3 ⊢; omega)
  obtain rfl := oin H
  go_enter Tryz.func185, Tryz.ntmps185
  go_wp2
  go_ret
  exact ⟨er, tb HB⟩
 
 
 rw [if_pos c3] at H
 have c3b0 : ((l0.length : Int) == (l1.length : Int)) = true := beq_iff_eq.mpr c3
 have c3b1 : ((l0.length : Int) != (l1.length : Int)) = false := bne_eq_false_iff_eq.mpr c3
 have c3b2 : (l0.length == l1.length) = true := by first | simpa using c3 | (simp at c3 ⊢; omega)
 clear c3
 have H' := Aside0.mk H
 clear H
 go_enter Tryz.func185, Tryz.ntmps185
 go_wp2
 go_loopg [5] k (fun kq v5 w' => ∃ (x5_1 : Int), v5 = .int .i64 x5_1 ∧ Aside0 (laws_eqPairS.l0 kq l0 l1 x5_1 = some r) ∧ Aside0 (kq ≤ k) ∧ Aside0 (Below w.heap.size w w'))
 case atStart => exact ⟨(0), rsd, H', ⟨Nat.le_refl _⟩, ⟨tb HB⟩⟩
 case round =>
  clear H'
  obtain ⟨x5_1, rfl, HA, HK1, HB⟩ := hrel
  cases gk with
  | zero => exact absurd HA.out (by simp [laws_eqPairS.l0])
  | succ k1 =>
   have H := HA.out
   clear HA
   simp only [laws_eqPairS.l0] at H
   revert H; refine icd (fun c4b0 H => ?_) fun c4b0 H => ?neg
   case neg =>
    obtain rfl := oin H
    go_wp2
    go_ret
    exact ⟨er, tb HB⟩
   obtain ⟨c5b0, H⟩ := itd H
   obtain ⟨c6b0, H⟩ := itd H
   obtain ⟨t544, A7, H⟩ := bn H
   try dsimp only at H
   cases t544
   case false =>
    replace H := ipf H
    obtain rfl := oin H
    try go_wp2
    replace HB := Aside0.mk (below_drew1 HB.out)
    have p542 : 0 ≤ (x5_1 : Int) := od
    have q542 : x5_1 < (l0.length : Int) := od
    obtain ⟨ad542, e542, hx542⟩ := att145 HR0.out x5_1 p542 q542
    have hw542 := hx542
    cases e542
    replace hx542 := ox2 HB hx542
    replace p542 := eq_true p542
    replace q542 := eq_true q542
    have p543 : 0 ≤ (x5_1 : Int) := od
    have q543 : x5_1 < (l1.length : Int) := od
    obtain ⟨ad543, e543, hx543⟩ := att145 HR1.out x5_1 p543 q543
    have hw543 := hx543
    cases e543
    replace hx543 := ox2 HB hx543
    replace p543 := eq_true p543
    replace q543 := eq_true q543
    refine start_ (n := 10) (S := fun w' => eT145 (ad542.add ((x5_1).toNat * 2)) (rd_T145 l0 x5_1) w' ∧ eT145 (ad543.add ((x5_1).toNat * 2)) (rd_T145 l1 x5_1) w') (ds := []) #[false, false, false, false, false, false, false, false, false, false] (by kernel_rfl) rfl rfl ⟨(ox2 HB hw542 :), (ox2 HB hw543 :)⟩ (fun hHeld => ?_); refine with_tabW laws_eqPairS.tab6 laws_eqPairS.bits6 (fun HT_ HW_ => ?_)
    generalize wr.drew = w11 at HB hx542 hx543 hHeld ⊢
    refine pu 0 17 ?_; refine pu 1 18 ?_; refine pu 2 19 ?_; refine pu 4 21 ?_; refine pu 5 22 ?_; refine pu 6 23 ?_; refine ta 3 20 ?_; refine ta 7 24 ?_
    refine on1 8 (some 25) (fun K hK => ?_)
    refine gS Tryz.func195 #[.agg #[.int .i64 ((rd_T145 l0 x5_1).f0), .int .i64 ((rd_T145 l0 x5_1).f1)], .agg #[.int .i64 ((rd_T145 l1 x5_1).f0), .int .i64 ((rd_T145 l1 x5_1).f1)]] ?_
    with_reducible refine (laws_eqPair.calls ((rd_T145 l0 x5_1).f0) ((rd_T145 l0 x5_1).f1) ((rd_T145 l1 x5_1).f0) ((rd_T145 l1 x5_1).f1) false _ A7.out).mono ?_
    rintro e w12 ⟨rfl, hb⟩
    refine ⟨_, rfl, ?_⟩
    replace HB := bs HB hb
    (try clear hb)
    (try clear hb2)
    (try clear hk)
    (try clear hi)
    refine hK.out _ _ ⟨(ox2 HB hw542 :), (ox2 HB hw543 :)⟩ (fun hHeld => ?_)
    clear hK K
    refine nm 25 ?_
    refine pu 9 26 ?_
    refine done_ (done_of HT_.out (by kernel_rfl)) ?_
    try go_wp2
    go_ret
    exact ⟨er, tb HB⟩
   replace H := ipt H
   have H' := Aside0.mk H
   clear H
   try go_wp2
   replace HB := Aside0.mk (below_drew1 HB.out)
   have p542 : 0 ≤ (x5_1 : Int) := od
   have q542 : x5_1 < (l0.length : Int) := od
   obtain ⟨ad542, e542, hx542⟩ := att145 HR0.out x5_1 p542 q542
   have hw542 := hx542
   cases e542
   replace hx542 := ox2 HB hx542
   replace p542 := eq_true p542
   replace q542 := eq_true q542
   have p543 : 0 ≤ (x5_1 : Int) := od
   have q543 : x5_1 < (l1.length : Int) := od
   obtain ⟨ad543, e543, hx543⟩ := att145 HR1.out x5_1 p543 q543
   have hw543 := hx543
   cases e543
   replace hx543 := ox2 HB hx543
   replace p543 := eq_true p543
   replace q543 := eq_true q543
   refine start_ (n := 10) (S := fun w' => eT145 (ad542.add ((x5_1).toNat * 2)) (rd_T145 l0 x5_1) w' ∧ eT145 (ad543.add ((x5_1).toNat * 2)) (rd_T145 l1 x5_1) w') (ds := []) #[false, false, false, false, false, false, false, false, false, false] (by kernel_rfl) rfl rfl ⟨(ox2 HB hw542 :), (ox2 HB hw543 :)⟩ (fun hHeld => ?_); refine with_tabW laws_eqPairS.tab6 laws_eqPairS.bits6 (fun HT_ HW_ => ?_)
   generalize wr.drew = w9 at HB hx542 hx543 hHeld ⊢
   refine pu 0 17 ?_; refine pu 1 18 ?_; refine pu 2 19 ?_; refine pu 4 21 ?_; refine pu 5 22 ?_; refine pu 6 23 ?_; refine ta 3 20 ?_; refine ta 7 24 ?_
   refine on1 8 (some 25) (fun K hK => ?_)
   refine gS Tryz.func195 #[.agg #[.int .i64 ((rd_T145 l0 x5_1).f0), .int .i64 ((rd_T145 l0 x5_1).f1)], .agg #[.int .i64 ((rd_T145 l1 x5_1).f0), .int .i64 ((rd_T145 l1 x5_1).f1)]] ?_
   with_reducible refine (laws_eqPair.calls ((rd_T145 l0 x5_1).f0) ((rd_T145 l0 x5_1).f1) ((rd_T145 l1 x5_1).f0) ((rd_T145 l1 x5_1).f1) true _ A7.out).mono ?_
   rintro e w10 ⟨rfl, hb⟩
   refine ⟨_, rfl, ?_⟩
   replace HB := bs HB hb
   (try clear hb)
   (try clear hb2)
   (try clear hk)
   (try clear hi)
   refine hK.out _ _ ⟨(ox2 HB hw542 :), (ox2 HB hw543 :)⟩ (fun hHeld => ?_)
   clear hK K
   refine nm 25 ?_
   refine pu 9 26 ?_
   refine done_ (done_of HT_.out (by kernel_rfl)) ?_
   try go_wp2
   go_roundg k1
   case measure => have := HK1.out; omega
   case rel => exact ⟨(wrap64 (x5_1 + 1)), rsd, H', ⟨by have := HK1.out; omega⟩, ⟨tb HB⟩⟩
def laws_eqHelpS.l0 : Nat → List (S42) → List (S42) → Int → Option (Bool)
 | 0, _, _, _ => none
 | k + 1, x0, x1, x5 => if x5 < (x0.length : Int) then (if 0 ≤ x5 then (if x5 < (x1.length : Int) then ((laws_eqHelp.f ((rd_T42 x0 x5).f0) ((rd_T42 x0 x5).f1) ((rd_T42 x0 x5).f2) ((rd_T42 x0 x5).f3) ((rd_T42 x1 x5).f0) ((rd_T42 x1 x5).f1) ((rd_T42 x1 x5).f2) ((rd_T42 x1 x5).f3)).bind fun t549 => (if t549 = true then (laws_eqHelpS.l0 k x0 x1 (wrap64 (x5 + 1))) else (some false))) else (none)) else (none)) else (some true)
def laws_eqHelpS.f (k : Nat) (l0 : List (S42)) (l1 : List (S42)) : Option (Bool) := if (l0.length : Int) = (l1.length : Int) then (laws_eqHelpS.l0 k l0 l1 0) else (some false)
def laws_eqHelpS.T6 : Bool × List (List Nat × List Nat) := (true, [([], []), ([], []), ([0, 1], [0, 1]), ([2], [2]), ([], []), ([], []), ([4, 5], [4, 5]), ([6], [6]), ([3, 7], [3, 7]), ([8], [8])])
def laws_eqHelpS.B6 : List Nat := [0, 0, 3, 7, 0, 0, 48, 112, 255, 511]
theorem laws_eqHelpS.tab6 : rtab .any (opsOf Tryz.f186 6) = laws_eqHelpS.T6 := by kernel_rfl
theorem laws_eqHelpS.bits6 : waitsOk laws_eqHelpS.T6.2 laws_eqHelpS.B6 = true := by kernel_rfl
set_option maxHeartbeats 8000000 in
set_option maxRecDepth 100000 in
theorem laws_eqHelpS.calls (k : Nat) (A0 : Option Addr) (c0 : Nat) (l0 : List (S42)) (A1 : Option Addr) (c1 : Nat) (l1 : List (S42)) (r : Bool) (w : World) (hr0 : Kd.C k42 w A0 l0.length l0) (hc0 : l0.length ≤ c0) (hr1 : Kd.C k42 w A1 l1.length l1) (hc1 : l1.length ≤ c1) (h : laws_eqHelpS.f k l0 l1 = some r) :
  Calls Tryz.prog 186 #[.slice A0 l0.length c0, .slice A1 l1.length c1] w fun e w' => e = .returned (.bool r) ∧ Below w.heap.size w w' := by
 have hu42 := Tryz.underlying42
 have HR0 := Aside0.mk hr0
 have HC0 := Aside0.mk hc0
 clear hr0 hc0
 have HR1 := Aside0.mk hr1
 have HC1 := Aside0.mk hc1
 clear hr1 hc1
 have HB := Aside0.mk (Below.refl w.heap.size w)
 have H := h
 clear h
 unfold laws_eqHelpS.f at H
 by_cases c3 : (l0.length : Int) = (l1.length : Int)
 case neg =>
  rw [if_neg c3] at H
  have c3b0 : ((l0.length : Int) == (l1.length : Int)) = false := beq_eq_false_iff_ne.mpr c3
  have c3b1 : ((l0.length : Int) != (l1.length : Int)) = true := bne_iff_ne.mpr c3
  have c3b2 : (l0.length == l1.length) = false := by first | simpa using c3 | (simp at c3 ⊢; omega)
  obtain rfl := oin H
  go_enter Tryz.func186, Tryz.ntmps186
  go_wp2
  go_ret
  exact ⟨er, tb HB⟩
 
 
 rw [if_pos c3] at H
 have c3b0 : ((l0.length : Int) == (l1.length : Int)) = true := beq_iff_eq.mpr c3
 have c3b1 : ((l0.length : Int) != (l1.length : Int)) = false := bne_eq_false_iff_eq.mpr c3
 have c3b2 : (l0.length == l1.length) = true := by first | simpa using c3 | (simp at c3 ⊢; omega)
 clear c3
 have H' := Aside0.mk H
 clear H
 go_enter Tryz.func186, Tryz.ntmps186
 go_wp2
 go_loopg [5] k (fun kq v5 w' => ∃ (x5_1 : Int), v5 = .int .i64 x5_1 ∧ Aside0 (laws_eqHelpS.l0 kq l0 l1 x5_1 = some r) ∧ Aside0 (kq ≤ k) ∧ Aside0 (Below w.heap.size w w'))
 case atStart => exact ⟨(0), rsd, H', ⟨Nat.le_refl _⟩, ⟨tb HB⟩⟩
 case round =>
  clear H'
  obtain ⟨x5_1, rfl, HA, HK1, HB⟩ := hrel
  cases gk with
  | zero => exact absurd HA.out (by simp [laws_eqHelpS.l0])
  | succ k1 =>
   have H := HA.out
   clear HA
   simp only [laws_eqHelpS.l0] at H
   revert H; refine icd (fun c4b0 H => ?_) fun c4b0 H => ?neg
   case neg =>
    obtain rfl := oin H
    go_wp2
    go_ret
    exact ⟨er, tb HB⟩
   obtain ⟨c5b0, H⟩ := itd H
   obtain ⟨c6b0, H⟩ := itd H
   obtain ⟨t549, A7, H⟩ := bn H
   try dsimp only at H
   cases t549
   case false =>
    replace H := ipf H
    obtain rfl := oin H
    try go_wp2
    replace HB := Aside0.mk (below_drew1 HB.out)
    have p547 : 0 ≤ (x5_1 : Int) := od
    have q547 : x5_1 < (l0.length : Int) := od
    obtain ⟨ad547, e547, hx547⟩ := att42 HR0.out x5_1 p547 q547
    have hw547 := hx547
    cases e547
    replace hx547 := ox4 HB hx547
    replace p547 := eq_true p547
    replace q547 := eq_true q547
    have p548 : 0 ≤ (x5_1 : Int) := od
    have q548 : x5_1 < (l1.length : Int) := od
    obtain ⟨ad548, e548, hx548⟩ := att42 HR1.out x5_1 p548 q548
    have hw548 := hx548
    cases e548
    replace hx548 := ox4 HB hx548
    replace p548 := eq_true p548
    replace q548 := eq_true q548
    refine start_ (n := 10) (S := fun w' => eT42 (ad547.add ((x5_1).toNat * 4)) (rd_T42 l0 x5_1) w' ∧ eT42 (ad548.add ((x5_1).toNat * 4)) (rd_T42 l1 x5_1) w') (ds := []) #[false, false, false, false, false, false, false, false, false, false] (by kernel_rfl) rfl rfl ⟨(ox4 HB hw547 :), (ox4 HB hw548 :)⟩ (fun hHeld => ?_); refine with_tabW laws_eqHelpS.tab6 laws_eqHelpS.bits6 (fun HT_ HW_ => ?_)
    generalize wr.drew = w11 at HB hx547 hx548 hHeld ⊢
    refine pu 0 17 ?_; refine pu 1 18 ?_; refine pu 2 19 ?_; refine pu 4 21 ?_; refine pu 5 22 ?_; refine pu 6 23 ?_; refine ta 3 20 ?_; refine ta 7 24 ?_
    refine on1 8 (some 25) (fun K hK => ?_)
    refine gS Tryz.func196 #[.agg #[.int .i64 ((rd_T42 l0 x5_1).f0), .int .i64 ((rd_T42 l0 x5_1).f1), .int .i64 ((rd_T42 l0 x5_1).f2), .int .i64 ((rd_T42 l0 x5_1).f3)], .agg #[.int .i64 ((rd_T42 l1 x5_1).f0), .int .i64 ((rd_T42 l1 x5_1).f1), .int .i64 ((rd_T42 l1 x5_1).f2), .int .i64 ((rd_T42 l1 x5_1).f3)]] ?_
    with_reducible refine (laws_eqHelp.calls ((rd_T42 l0 x5_1).f0) ((rd_T42 l0 x5_1).f1) ((rd_T42 l0 x5_1).f2) ((rd_T42 l0 x5_1).f3) ((rd_T42 l1 x5_1).f0) ((rd_T42 l1 x5_1).f1) ((rd_T42 l1 x5_1).f2) ((rd_T42 l1 x5_1).f3) false _ A7.out).mono ?_
    rintro e w12 ⟨rfl, hb⟩
    refine ⟨_, rfl, ?_⟩
    replace HB := bs HB hb
    (try clear hb)
    (try clear hb2)
    (try clear hk)
    (try clear hi)
    refine hK.out _ _ ⟨(ox4 HB hw547 :), (ox4 HB hw548 :)⟩ (fun hHeld => ?_)
    clear hK K
    refine nm 25 ?_
    refine pu 9 26 ?_
    refine done_ (done_of HT_.out (by kernel_rfl)) ?_
    try go_wp2
    go_ret
    exact ⟨er, tb HB⟩
   replace H := ipt H
   have H' := Aside0.mk H
   clear H
   try go_wp2
   replace HB := Aside0.mk (below_drew1 HB.out)
   have p547 : 0 ≤ (x5_1 : Int) := od
   have q547 : x5_1 < (l0.length : Int) := od
   obtain ⟨ad547, e547, hx547⟩ := att42 HR0.out x5_1 p547 q547
   have hw547 := hx547
   cases e547
   replace hx547 := ox4 HB hx547
   replace p547 := eq_true p547
   replace q547 := eq_true q547
   have p548 : 0 ≤ (x5_1 : Int) := od
   have q548 : x5_1 < (l1.length : Int) := od
   obtain ⟨ad548, e548, hx548⟩ := att42 HR1.out x5_1 p548 q548
   have hw548 := hx548
   cases e548
   replace hx548 := ox4 HB hx548
   replace p548 := eq_true p548
   replace q548 := eq_true q548
   refine start_ (n := 10) (S := fun w' => eT42 (ad547.add ((x5_1).toNat * 4)) (rd_T42 l0 x5_1) w' ∧ eT42 (ad548.add ((x5_1).toNat * 4)) (rd_T42 l1 x5_1) w') (ds := []) #[false, false, false, false, false, false, false, false, false, false] (by kernel_rfl) rfl rfl ⟨(ox4 HB hw547 :), (ox4 HB hw548 :)⟩ (fun hHeld => ?_); refine with_tabW laws_eqHelpS.tab6 laws_eqHelpS.bits6 (fun HT_ HW_ => ?_)
   generalize wr.drew = w9 at HB hx547 hx548 hHeld ⊢
   refine pu 0 17 ?_; refine pu 1 18 ?_; refine pu 2 19 ?_; refine pu 4 21 ?_; refine pu 5 22 ?_; refine pu 6 23 ?_; refine ta 3 20 ?_; refine ta 7 24 ?_
   refine on1 8 (some 25) (fun K hK => ?_)
   refine gS Tryz.func196 #[.agg #[.int .i64 ((rd_T42 l0 x5_1).f0), .int .i64 ((rd_T42 l0 x5_1).f1), .int .i64 ((rd_T42 l0 x5_1).f2), .int .i64 ((rd_T42 l0 x5_1).f3)], .agg #[.int .i64 ((rd_T42 l1 x5_1).f0), .int .i64 ((rd_T42 l1 x5_1).f1), .int .i64 ((rd_T42 l1 x5_1).f2), .int .i64 ((rd_T42 l1 x5_1).f3)]] ?_
   with_reducible refine (laws_eqHelp.calls ((rd_T42 l0 x5_1).f0) ((rd_T42 l0 x5_1).f1) ((rd_T42 l0 x5_1).f2) ((rd_T42 l0 x5_1).f3) ((rd_T42 l1 x5_1).f0) ((rd_T42 l1 x5_1).f1) ((rd_T42 l1 x5_1).f2) ((rd_T42 l1 x5_1).f3) true _ A7.out).mono ?_
   rintro e w10 ⟨rfl, hb⟩
   refine ⟨_, rfl, ?_⟩
   replace HB := bs HB hb
   (try clear hb)
   (try clear hb2)
   (try clear hk)
   (try clear hi)
   refine hK.out _ _ ⟨(ox4 HB hw547 :), (ox4 HB hw548 :)⟩ (fun hHeld => ?_)
   clear hK K
   refine nm 25 ?_
   refine pu 9 26 ?_
   refine done_ (done_of HT_.out (by kernel_rfl)) ?_
   try go_wp2
   go_roundg k1
   case measure => have := HK1.out; omega
   case rel => exact ⟨(wrap64 (x5_1 + 1)), rsd, H', ⟨by have := HK1.out; omega⟩, ⟨tb HB⟩⟩
def laws_eqRows.f (k : Nat) (l0_0 : List Int) (a0_1 : Int) (l1_0 : List Int) (a1_1 : Int) : Option (Bool) := (laws_eqIntS.f k l0_0 l1_0).bind fun t567 => (if t567 = true then (if a0_1 = a1_1 then (some true) else (some false)) else (some false))
set_option maxHeartbeats 8000000 in
set_option maxRecDepth 100000 in
theorem laws_eqRows.calls (k : Nat) (A0_0 : Option Addr) (c0_0 : Nat) (l0_0 : List Int) (a0_1 : Int) (A1_0 : Option Addr) (c1_0 : Nat) (l1_0 : List Int) (a1_1 : Int) (r : Bool) (w : World) (hr0_0 : Kd.C (Kd.int .i64) w A0_0 l0_0.length l0_0) (hc0_0 : l0_0.length ≤ c0_0) (hr1_0 : Kd.C (Kd.int .i64) w A1_0 l1_0.length l1_0) (hc1_0 : l1_0.length ≤ c1_0) (h : laws_eqRows.f k l0_0 a0_1 l1_0 a1_1 = some r) :
  Calls Tryz.prog 102 #[.agg #[.slice A0_0 l0_0.length c0_0, .int .i64 a0_1], .agg #[.slice A1_0 l1_0.length c1_0, .int .i64 a1_1]] w fun e w' => e = .returned (.bool r) ∧ Below w.heap.size w w' := by
 have hu73 := Tryz.underlying73
 have HR0_0 := Aside0.mk hr0_0
 have HC0_0 := Aside0.mk hc0_0
 clear hr0_0 hc0_0
 have HR1_0 := Aside0.mk hr1_0
 have HC1_0 := Aside0.mk hc1_0
 clear hr1_0 hc1_0
 have HB := Aside0.mk (Below.refl w.heap.size w)
 have H := h
 clear h
 unfold laws_eqRows.f at H
 obtain ⟨t567, A3, H⟩ := bn H
 try dsimp only at H
 cases t567
 case false =>
  replace H := ipf H
  obtain rfl := oin H
  go_enter Tryz.func102, Tryz.ntmps102
  go_wp2_with (first | ((with_reducible refine gq 2 rfl ?_); refine bx0 HB (N := 2) (t := 73) ?_; clear HB; intro gb565 w16 BK565 GE565 HB) | ((with_reducible refine gq 3 rfl ?_); refine bx1 HB BK565 (N := 3) (t := 73) ?_; clear HB BK565; intro gb566 w17 BK566 GE566 HB NB565_566 NB566_565 BK565; have hnb18 := NB565_566.out; have hnc18 := NB566_565.out; have hz19 := cs2_ BK565; have hz20 := cs2_ BK566) | ((with_reducible refine gf 101 rfl ?_); refine gL 9 Tryz.func101 #[.slice A0_0 l0_0.length c0_0, .slice A1_0 l1_0.length c1_0] ?_; (with_reducible refine (laws_eqIntS.calls k _ _ l0_0 _ _ l1_0 false _ (kc HR0_0 HB) HC0_0.out (kc HR1_0 HB) HC1_0.out A3.out).mono ?_); rintro e w' ⟨rfl, ⟨nd, rfl⟩⟩; refine ⟨_, rfl, ?_⟩))
  go_ret
  exact ⟨er, tb HB⟩
 replace H := ipt H
 by_cases c5 : a0_1 = a1_1
 case neg =>
  rw [if_neg c5] at H
  have c5b0 : (a0_1 == a1_1) = false := beq_eq_false_iff_ne.mpr c5
  have c5b1 : (a0_1 != a1_1) = true := bne_iff_ne.mpr c5
  obtain rfl := oin H
  go_enter Tryz.func102, Tryz.ntmps102
  go_wp2_with (first | ((with_reducible refine gq 2 rfl ?_); refine bx0 HB (N := 2) (t := 73) ?_; clear HB; intro gb565 w11 BK565 GE565 HB) | ((with_reducible refine gq 3 rfl ?_); refine bx1 HB BK565 (N := 3) (t := 73) ?_; clear HB BK565; intro gb566 w12 BK566 GE566 HB NB565_566 NB566_565 BK565; have hnb13 := NB565_566.out; have hnc13 := NB566_565.out; have hz14 := cs2_ BK565; have hz15 := cs2_ BK566) | ((with_reducible refine gf 101 rfl ?_); refine gL 9 Tryz.func101 #[.slice A0_0 l0_0.length c0_0, .slice A1_0 l1_0.length c1_0] ?_; (with_reducible refine (laws_eqIntS.calls k _ _ l0_0 _ _ l1_0 true _ (kc HR0_0 HB) HC0_0.out (kc HR1_0 HB) HC1_0.out A3.out).mono ?_); rintro e w' ⟨rfl, ⟨nd, rfl⟩⟩; refine ⟨_, rfl, ?_⟩))
  go_ret
  exact ⟨er, tb HB⟩
 rw [if_pos c5] at H
 have c5b0 : (a0_1 == a1_1) = true := beq_iff_eq.mpr c5
 have c5b1 : (a0_1 != a1_1) = false := bne_eq_false_iff_eq.mpr c5
 clear c5
 obtain rfl := oin H
 go_enter Tryz.func102, Tryz.ntmps102
 go_wp2_with (first | ((with_reducible refine gq 2 rfl ?_); refine bx0 HB (N := 2) (t := 73) ?_; clear HB; intro gb565 w6 BK565 GE565 HB) | ((with_reducible refine gq 3 rfl ?_); refine bx1 HB BK565 (N := 3) (t := 73) ?_; clear HB BK565; intro gb566 w7 BK566 GE566 HB NB565_566 NB566_565 BK565; have hnb8 := NB565_566.out; have hnc8 := NB566_565.out; have hz9 := cs2_ BK565; have hz10 := cs2_ BK566) | ((with_reducible refine gf 101 rfl ?_); refine gL 9 Tryz.func101 #[.slice A0_0 l0_0.length c0_0, .slice A1_0 l1_0.length c1_0] ?_; (with_reducible refine (laws_eqIntS.calls k _ _ l0_0 _ _ l1_0 true _ (kc HR0_0 HB) HC0_0.out (kc HR1_0 HB) HC1_0.out A3.out).mono ?_); rintro e w' ⟨rfl, ⟨nd, rfl⟩⟩; refine ⟨_, rfl, ?_⟩))
 go_ret
 exact ⟨er, tb HB⟩
def spec_ValOk.f (a0 : Int) : Option (Bool) := (spec_l1In.f a0 1 6).bind fun t129 => (some t129)
set_option maxHeartbeats 8000000 in
set_option maxRecDepth 100000 in
theorem spec_ValOk.calls (a0 : Int) (r : Bool) (w : World) (h : spec_ValOk.f a0 = some r) :
  Calls Tryz.prog 139 #[.int .i64 a0] w fun e w' => e = .returned (.bool r) ∧ Drawn0 w w' := by
 have H := h
 clear h
 unfold spec_ValOk.f at H
 obtain ⟨t129, A2, H⟩ := bn H
 try dsimp only at H
 obtain rfl := oin H
 go_enter Tryz.func139, Tryz.ntmps139
 go_wp2_with (first | ((with_reducible refine gf 70 rfl ?_); refine gL 4 Tryz.func70 #[.int .i64 a0, .int .i64 1, .int .i64 6] ?_; (with_reducible refine (spec_l1In.calls a0 1 6 t129 _ A2.out).mono ?_); rintro e w' ⟨rfl, ⟨nd, rfl⟩⟩; refine ⟨_, rfl, ?_⟩))
 go_ret
 exact ⟨rsd, by repeat (first | exact Drawn0.refl _ | apply Drawn0.step)⟩
def spec_l4Key.f (a0 : Int) : Option (Bool) := (spec_l1In.f a0 1 4).bind fun t130 => (some t130)
set_option maxHeartbeats 8000000 in
set_option maxRecDepth 100000 in
theorem spec_l4Key.calls (a0 : Int) (r : Bool) (w : World) (h : spec_l4Key.f a0 = some r) :
  Calls Tryz.prog 164 #[.int .i64 a0] w fun e w' => e = .returned (.bool r) ∧ Drawn0 w w' := by
 have H := h
 clear h
 unfold spec_l4Key.f at H
 obtain ⟨t130, A2, H⟩ := bn H
 try dsimp only at H
 obtain rfl := oin H
 go_enter Tryz.func164, Tryz.ntmps164
 go_wp2_with (first | ((with_reducible refine gf 70 rfl ?_); refine gL 4 Tryz.func70 #[.int .i64 a0, .int .i64 1, .int .i64 4] ?_; (with_reducible refine (spec_l1In.calls a0 1 4 t130 _ A2.out).mono ?_); rintro e w' ⟨rfl, ⟨nd, rfl⟩⟩; refine ⟨_, rfl, ?_⟩))
 go_ret
 exact ⟨rsd, by repeat (first | exact Drawn0.refl _ | apply Drawn0.step)⟩
def spec_KeyOk.f (a0 : Int) : Option (Bool) := (spec_l1In.f a0 0 3).bind fun t131 => (some t131)
set_option maxHeartbeats 8000000 in
set_option maxRecDepth 100000 in
theorem spec_KeyOk.calls (a0 : Int) (r : Bool) (w : World) (h : spec_KeyOk.f a0 = some r) :
  Calls Tryz.prog 165 #[.int .i64 a0] w fun e w' => e = .returned (.bool r) ∧ Drawn0 w w' := by
 have H := h
 clear h
 unfold spec_KeyOk.f at H
 obtain ⟨t131, A2, H⟩ := bn H
 try dsimp only at H
 obtain rfl := oin H
 go_enter Tryz.func165, Tryz.ntmps165
 go_wp2_with (first | ((with_reducible refine gf 70 rfl ?_); refine gL 4 Tryz.func70 #[.int .i64 a0, .int .i64 0, .int .i64 3] ?_; (with_reducible refine (spec_l1In.calls a0 0 3 t131 _ A2.out).mono ?_); rintro e w' ⟨rfl, ⟨nd, rfl⟩⟩; refine ⟨_, rfl, ?_⟩))
 go_ret
 exact ⟨rsd, by repeat (first | exact Drawn0.refl _ | apply Drawn0.step)⟩
end Go.Proofs.YtopikhjcbcpiaaaGreat.Q
