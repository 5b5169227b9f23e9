/- Part 1 of the steps by which the law is shown: what each function of the program, of the reference and of the law computes. No condition. -/
import Derived.Test.YtopikhjcbcpiaaaGreatProg
import Derived.Test.YtopikhjcbcpiaaaGreatMac0
section
namespace Go.Proofs.YtopikhjcbcpiaaaGreat.Q
open Go.RowKit Go.Proofs.YtopikhjcbcpiaaaGreatW.PrintWords Go.Proofs.YtopikhjcbcpiaaaGreatW.PrintLast Go.Proofs.YtopikhjcbcpiaaaGreatW.PrintMore
attribute [local go_sem] max2_int min2_int max_two min_two max_three min_three max_four min_four   -- for this text's walks alone
set_option linter.unusedVariables false
set_option linter.unusedSimpArgs false
def errW : Option Int → Value
  | none => .nilIface
  | some c => .iface 0 (.int .i64 c)
theorem errW_none : errW none = .nilIface := rfl
theorem errW_some (c : Int) : errW (some c) = .iface 0 (.int .i64 c) := rfl
theorem info3 : (Tryz.prog.info? 3).map (fun i => (i.zero, i.size, i.bytes)) = some (some (.int .i64 0), 1, 8) := by kernel_rfl
theorem info37 : (Tryz.prog.info? 37).map (fun i => (i.zero, i.size, i.bytes)) = some (some (.agg #[(.int .i64 0), (.int .i64 0), (.int .i64 0)]), 3, 24) := by kernel_rfl
theorem info39 : (Tryz.prog.info? 39).map (fun i => (i.zero, i.size, i.bytes)) = some (some (.agg #[(.int .i64 0), (.int .i64 0), (.int .i64 0)]), 3, 24) := by kernel_rfl
theorem info42 : (Tryz.prog.info? 42).map (fun i => (i.zero, i.size, i.bytes)) = some (some (.agg #[(.int .i64 0), (.int .i64 0), (.int .i64 0), (.int .i64 0)]), 4, 32) := by kernel_rfl
theorem info52 : (Tryz.prog.info? 52).map (fun i => (i.zero, i.size, i.bytes)) = some (some (.agg #[(.int .i64 0), (.int .i64 0), (.slice none 0 0), (.int .i64 0), (.slice none 0 0)]), 5, 72) := by kernel_rfl
theorem info82 : (Tryz.prog.info? 82).map (fun i => (i.zero, i.size, i.bytes)) = some (some (.agg #[(.slice none 0 0), (.int .i64 0), (.bool false), (.slice none 0 0), (.slice none 0 0)]), 5, 88) := by kernel_rfl
theorem info132 : (Tryz.prog.info? 132).map (fun i => (i.zero, i.size, i.bytes)) = some (some (.agg #[(.int .i64 0), (.int .i64 0), (.int .i64 0)]), 3, 24) := by kernel_rfl
theorem info134 : (Tryz.prog.info? 134).map (fun i => (i.zero, i.size, i.bytes)) = some (some (.agg #[(.int .i64 0), (.int .i64 0), (.int .i64 0), (.int .i64 0), (.int .i64 0), (.int .i64 0), (.int .i64 0), (.int .i64 0), (.slice none 0 0)]), 9, 88) := by kernel_rfl
theorem info145 : (Tryz.prog.info? 145).map (fun i => (i.zero, i.size, i.bytes)) = some (some (.agg #[(.int .i64 0), (.int .i64 0)]), 2, 16) := by kernel_rfl
structure S207 where
  f0 : Int
  f1 : Int
  f2 : Int
def z207 : S207 := ⟨(0 : Int), (0 : Int), (0 : Int)⟩
def k207 : Kd S207 := Kd.iso (Kd.pair (Kd.int .i64) (Kd.pair (Kd.int .i64) (Kd.int .i64))) (fun x : S207 => (x.f0, x.f1, x.f2))
theorem k207_open {w : World} {x : S207} {cs : List Value} (h : k207.K w x cs) : cs = [.int .i64 x.f0, .int .i64 x.f1, .int .i64 x.f2] := by
  obtain ⟨_, _, rfl, rfl, ⟨_, _, rfl, rfl, rfl⟩⟩ := h
  exact rfl
def rd_T207 (xs : List S207) (i : Int) : S207 := xs.getD i.toNat z207
theorem at_T207 {w : World} {A : Option Addr} {n : Nat} {xs : List S207} (h : Kd.C k207 w A n xs) (i : Int) (h0 : 0 ≤ i) (h1 : i < n) : ∃ ad , A = some ad ∧ w.cell? (ad.add (i.toNat * 3)) = some (.int .i64 (rd_T207 xs i).f0) ∧ w.cell? ⟨(ad.add (i.toNat * 3)).block, (ad.add (i.toNat * 3)).off + 1, none⟩ = some (.int .i64 (rd_T207 xs i).f1) ∧ w.cell? ⟨(ad.add (i.toNat * 3)).block, (ad.add (i.toNat * 3)).off + 2, none⟩ = some (.int .i64 (rd_T207 xs i).f2) := by
  obtain ⟨ad, c, e, _, hK, hc0⟩ := Kd.C_get h z207 i h0 h1
  have hc : ∀ j u, c[j]? = some u → w.cell? (ad.add (i.toNat * 3 + j)) = some u := hc0
  obtain rfl := k207_open hK
  exact ⟨ad, e, hc 0 _ rfl, by rw [← add_field _ _ 1 (by omega)]; exact hc 1 _ rfl, by rw [← add_field _ _ 2 (by omega)]; exact hc 2 _ rfl⟩
structure S236 where
  f0 : Int
  f1 : Int
  f2 : Int
def z236 : S236 := ⟨(0 : Int), (0 : Int), (0 : Int)⟩
def k236 : Kd S236 := Kd.iso (Kd.pair (Kd.int .i64) (Kd.pair (Kd.int .i64) (Kd.int .i64))) (fun x : S236 => (x.f0, x.f1, x.f2))
theorem k236_open {w : World} {x : S236} {cs : List Value} (h : k236.K w x cs) : cs = [.int .i64 x.f0, .int .i64 x.f1, .int .i64 x.f2] := by
  obtain ⟨_, _, rfl, rfl, ⟨_, _, rfl, rfl, rfl⟩⟩ := h
  exact rfl
def rd_T236 (xs : List S236) (i : Int) : S236 := xs.getD i.toNat z236
theorem at_T236 {w : World} {A : Option Addr} {n : Nat} {xs : List S236} (h : Kd.C k236 w A n xs) (i : Int) (h0 : 0 ≤ i) (h1 : i < n) : ∃ ad , A = some ad ∧ w.cell? (ad.add (i.toNat * 3)) = some (.int .i64 (rd_T236 xs i).f0) ∧ w.cell? ⟨(ad.add (i.toNat * 3)).block, (ad.add (i.toNat * 3)).off + 1, none⟩ = some (.int .i64 (rd_T236 xs i).f1) ∧ w.cell? ⟨(ad.add (i.toNat * 3)).block, (ad.add (i.toNat * 3)).off + 2, none⟩ = some (.int .i64 (rd_T236 xs i).f2) := by
  obtain ⟨ad, c, e, _, hK, hc0⟩ := Kd.C_get h z236 i h0 h1
  have hc : ∀ j u, c[j]? = some u → w.cell? (ad.add (i.toNat * 3 + j)) = some u := hc0
  obtain rfl := k236_open hK
  exact ⟨ad, e, hc 0 _ rfl, by rw [← add_field _ _ 1 (by omega)]; exact hc 1 _ rfl, by rw [← add_field _ _ 2 (by omega)]; exact hc 2 _ rfl⟩
structure S174 where
  f0 : Int
  f1 : (List Int)
def z174 : S174 := ⟨(0 : Int), ([] : List Int)⟩
def k174 : Kd S174 := Kd.iso (Kd.pair (Kd.int .i64) (Kd.slice 3 (Kd.int .i64))) (fun x : S174 => (x.f0, x.f1))
theorem k174_open {w : World} {x : S174} {cs : List Value} (h : k174.K w x cs) : ∃ A1 c1, cs = [.int .i64 x.f0, .slice A1 x.f1.length c1] ∧ x.f1.length ≤ c1 ∧ (Kd.int .i64).C w A1 x.f1.length x.f1 := by
  obtain ⟨_, _, rfl, rfl, ⟨A1, c1, rfl, l1, g1⟩⟩ := h
  exact ⟨A1, c1, rfl, l1, g1⟩
structure S201 where
  f0 : Int
  f1 : Int
  f2 : (List S236)
  f3 : S174
def z201 : S201 := ⟨(0 : Int), (0 : Int), ([] : List S236), z174⟩
def k201 : Kd S201 := Kd.iso (Kd.pair (Kd.int .i64) (Kd.pair (Kd.int .i64) (Kd.pair (Kd.slice 236 k236) k174))) (fun x : S201 => (x.f0, x.f1, x.f2, x.f3))
theorem k201_open {w : World} {x : S201} {cs : List Value} (h : k201.K w x cs) : ∃ A2 c2 A4 c4, cs = [.int .i64 x.f0, .int .i64 x.f1, .slice A2 x.f2.length c2, .int .i64 x.f3.f0, .slice A4 x.f3.f1.length c4] ∧ x.f2.length ≤ c2 ∧ k236.C w A2 x.f2.length x.f2 ∧ x.f3.f1.length ≤ c4 ∧ (Kd.int .i64).C w A4 x.f3.f1.length x.f3.f1 := by
  obtain ⟨_, _, rfl, rfl, ⟨_, _, rfl, rfl, ⟨_, _, rfl, ⟨A2, c2, rfl, l2, g2⟩, s3⟩⟩⟩ := h
  obtain ⟨A4, c4, rfl, l4, g4⟩ := k174_open s3
  exact ⟨A2, c2, A4, c4, rfl, l2, g2, l4, g4⟩
def rd_T201 (xs : List S201) (i : Int) : S201 := xs.getD i.toNat z201
theorem at_T201 {w : World} {A : Option Addr} {n : Nat} {xs : List S201} (h : Kd.C k201 w A n xs) (i : Int) (h0 : 0 ≤ i) (h1 : i < n) : ∃ ad A2 c2 A4 c4, A = some ad ∧ w.cell? (ad.add (i.toNat * 5)) = some (.int .i64 (rd_T201 xs i).f0) ∧ w.cell? ⟨(ad.add (i.toNat * 5)).block, (ad.add (i.toNat * 5)).off + 1, none⟩ = some (.int .i64 (rd_T201 xs i).f1) ∧ w.cell? ⟨(ad.add (i.toNat * 5)).block, (ad.add (i.toNat * 5)).off + 2, none⟩ = some (.slice A2 (rd_T201 xs i).f2.length c2) ∧ w.cell? ⟨(ad.add (i.toNat * 5)).block, (ad.add (i.toNat * 5)).off + 3, none⟩ = some (.int .i64 (rd_T201 xs i).f3.f0) ∧ w.cell? ⟨(ad.add (i.toNat * 5)).block, (ad.add (i.toNat * 5)).off + 4, none⟩ = some (.slice A4 (rd_T201 xs i).f3.f1.length c4) ∧ (rd_T201 xs i).f2.length ≤ c2 ∧ k236.C w A2 (rd_T201 xs i).f2.length (rd_T201 xs i).f2 ∧ (rd_T201 xs i).f3.f1.length ≤ c4 ∧ (Kd.int .i64).C w A4 (rd_T201 xs i).f3.f1.length (rd_T201 xs i).f3.f1 := by
  obtain ⟨ad, c, e, _, hK, hc0⟩ := Kd.C_get h z201 i h0 h1
  have hc : ∀ j u, c[j]? = some u → w.cell? (ad.add (i.toNat * 5 + j)) = some u := hc0
  obtain ⟨A2, c2, A4, c4, rfl, l2, g2, l4, g4⟩ := k201_open hK
  exact ⟨ad, A2, c2, A4, c4, e, hc 0 _ rfl, by rw [← add_field _ _ 1 (by omega)]; exact hc 1 _ rfl, by rw [← add_field _ _ 2 (by omega)]; exact hc 2 _ rfl, by rw [← add_field _ _ 3 (by omega)]; exact hc 3 _ rfl, by rw [← add_field _ _ 4 (by omega)]; exact hc 4 _ rfl, l2, g2, l4, g4⟩
structure S173 where
  f0 : Int
  f1 : Int
  f2 : Int
def z173 : S173 := ⟨(0 : Int), (0 : Int), (0 : Int)⟩
def k173 : Kd S173 := Kd.iso (Kd.pair (Kd.int .i64) (Kd.pair (Kd.int .i64) (Kd.int .i64))) (fun x : S173 => (x.f0, x.f1, x.f2))
theorem k173_open {w : World} {x : S173} {cs : List Value} (h : k173.K w x cs) : cs = [.int .i64 x.f0, .int .i64 x.f1, .int .i64 x.f2] := by
  obtain ⟨_, _, rfl, rfl, ⟨_, _, rfl, rfl, rfl⟩⟩ := h
  exact rfl
def rd_T173 (xs : List S173) (i : Int) : S173 := xs.getD i.toNat z173
theorem at_T173 {w : World} {A : Option Addr} {n : Nat} {xs : List S173} (h : Kd.C k173 w A n xs) (i : Int) (h0 : 0 ≤ i) (h1 : i < n) : ∃ ad , A = some ad ∧ w.cell? (ad.add (i.toNat * 3)) = some (.int .i64 (rd_T173 xs i).f0) ∧ w.cell? ⟨(ad.add (i.toNat * 3)).block, (ad.add (i.toNat * 3)).off + 1, none⟩ = some (.int .i64 (rd_T173 xs i).f1) ∧ w.cell? ⟨(ad.add (i.toNat * 3)).block, (ad.add (i.toNat * 3)).off + 2, none⟩ = some (.int .i64 (rd_T173 xs i).f2) := by
  obtain ⟨ad, c, e, _, hK, hc0⟩ := Kd.C_get h z173 i h0 h1
  have hc : ∀ j u, c[j]? = some u → w.cell? (ad.add (i.toNat * 3 + j)) = some u := hc0
  obtain rfl := k173_open hK
  exact ⟨ad, e, hc 0 _ rfl, by rw [← add_field _ _ 1 (by omega)]; exact hc 1 _ rfl, by rw [← add_field _ _ 2 (by omega)]; exact hc 2 _ rfl⟩
structure S224 where
  f0 : Int
  f1 : Int
def z224 : S224 := ⟨(0 : Int), (0 : Int)⟩
def k224 : Kd S224 := Kd.iso (Kd.pair (Kd.int .i64) (Kd.int .i64)) (fun x : S224 => (x.f0, x.f1))
theorem k224_open {w : World} {x : S224} {cs : List Value} (h : k224.K w x cs) : cs = [.int .i64 x.f0, .int .i64 x.f1] := by
  obtain ⟨_, _, rfl, rfl, rfl⟩ := h
  exact rfl
def rd_T224 (xs : List S224) (i : Int) : S224 := xs.getD i.toNat z224
theorem at_T224 {w : World} {A : Option Addr} {n : Nat} {xs : List S224} (h : Kd.C k224 w A n xs) (i : Int) (h0 : 0 ≤ i) (h1 : i < n) : ∃ ad , A = some ad ∧ w.cell? (ad.add (i.toNat * 2)) = some (.int .i64 (rd_T224 xs i).f0) ∧ w.cell? ⟨(ad.add (i.toNat * 2)).block, (ad.add (i.toNat * 2)).off + 1, none⟩ = some (.int .i64 (rd_T224 xs i).f1) := by
  obtain ⟨ad, c, e, _, hK, hc0⟩ := Kd.C_get h z224 i h0 h1
  have hc : ∀ j u, c[j]? = some u → w.cell? (ad.add (i.toNat * 2 + j)) = some u := hc0
  obtain rfl := k224_open hK
  exact ⟨ad, e, hc 0 _ rfl, by rw [← add_field _ _ 1 (by omega)]; exact hc 1 _ rfl⟩
structure S226 where
  f0 : Int
  f1 : Int
  f2 : Int
  f3 : Int
def z226 : S226 := ⟨(0 : Int), (0 : Int), (0 : Int), (0 : Int)⟩
def k226 : Kd S226 := Kd.iso (Kd.pair (Kd.int .i64) (Kd.pair (Kd.int .i64) (Kd.pair (Kd.int .i64) (Kd.int .i64)))) (fun x : S226 => (x.f0, x.f1, x.f2, x.f3))
theorem k226_open {w : World} {x : S226} {cs : List Value} (h : k226.K w x cs) : cs = [.int .i64 x.f0, .int .i64 x.f1, .int .i64 x.f2, .int .i64 x.f3] := by
  obtain ⟨_, _, rfl, rfl, ⟨_, _, rfl, rfl, ⟨_, _, rfl, rfl, rfl⟩⟩⟩ := h
  exact rfl
def rd_T226 (xs : List S226) (i : Int) : S226 := xs.getD i.toNat z226
theorem at_T226 {w : World} {A : Option Addr} {n : Nat} {xs : List S226} (h : Kd.C k226 w A n xs) (i : Int) (h0 : 0 ≤ i) (h1 : i < n) : ∃ ad , A = some ad ∧ w.cell? (ad.add (i.toNat * 4)) = some (.int .i64 (rd_T226 xs i).f0) ∧ w.cell? ⟨(ad.add (i.toNat * 4)).block, (ad.add (i.toNat * 4)).off + 1, none⟩ = some (.int .i64 (rd_T226 xs i).f1) ∧ w.cell? ⟨(ad.add (i.toNat * 4)).block, (ad.add (i.toNat * 4)).off + 2, none⟩ = some (.int .i64 (rd_T226 xs i).f2) ∧ w.cell? ⟨(ad.add (i.toNat * 4)).block, (ad.add (i.toNat * 4)).off + 3, none⟩ = some (.int .i64 (rd_T226 xs i).f3) := by
  obtain ⟨ad, c, e, _, hK, hc0⟩ := Kd.C_get h z226 i h0 h1
  have hc : ∀ j u, c[j]? = some u → w.cell? (ad.add (i.toNat * 4 + j)) = some u := hc0
  obtain rfl := k226_open hK
  exact ⟨ad, e, hc 0 _ rfl, by rw [← add_field _ _ 1 (by omega)]; exact hc 1 _ rfl, by rw [← add_field _ _ 2 (by omega)]; exact hc 2 _ rfl, by rw [← add_field _ _ 3 (by omega)]; exact hc 3 _ rfl⟩
structure S171 where
  f0 : (List S173)
  f1 : Int
  f2 : Bool
  f3 : (List S224)
  f4 : (List S226)
def z171 : S171 := ⟨([] : List S173), (0 : Int), false, ([] : List S224), ([] : List S226)⟩
def k171 : Kd S171 := Kd.iso (Kd.pair (Kd.slice 173 k173) (Kd.pair (Kd.int .i64) (Kd.pair Kd.bool (Kd.pair (Kd.slice 224 k224) (Kd.slice 226 k226))))) (fun x : S171 => (x.f0, x.f1, x.f2, x.f3, x.f4))
theorem k171_open {w : World} {x : S171} {cs : List Value} (h : k171.K w x cs) : ∃ A0 c0 A3 c3 A4 c4, cs = [.slice A0 x.f0.length c0, .int .i64 x.f1, .bool x.f2, .slice A3 x.f3.length c3, .slice A4 x.f4.length c4] ∧ x.f0.length ≤ c0 ∧ k173.C w A0 x.f0.length x.f0 ∧ x.f3.length ≤ c3 ∧ k224.C w A3 x.f3.length x.f3 ∧ x.f4.length ≤ c4 ∧ k226.C w A4 x.f4.length x.f4 := by
  obtain ⟨_, _, rfl, ⟨A0, c0, rfl, l0, g0⟩, ⟨_, _, rfl, rfl, ⟨_, _, rfl, rfl, ⟨_, _, rfl, ⟨A3, c3, rfl, l3, g3⟩, ⟨A4, c4, rfl, l4, g4⟩⟩⟩⟩⟩ := h
  exact ⟨A0, c0, A3, c3, A4, c4, rfl, l0, g0, l3, g3, l4, g4⟩
def rd_T171 (xs : List S171) (i : Int) : S171 := xs.getD i.toNat z171
theorem at_T171 {w : World} {A : Option Addr} {n : Nat} {xs : List S171} (h : Kd.C k171 w A n xs) (i : Int) (h0 : 0 ≤ i) (h1 : i < n) : ∃ ad A0 c0 A3 c3 A4 c4, A = some ad ∧ w.cell? (ad.add (i.toNat * 5)) = some (.slice A0 (rd_T171 xs i).f0.length c0) ∧ w.cell? ⟨(ad.add (i.toNat * 5)).block, (ad.add (i.toNat * 5)).off + 1, none⟩ = some (.int .i64 (rd_T171 xs i).f1) ∧ w.cell? ⟨(ad.add (i.toNat * 5)).block, (ad.add (i.toNat * 5)).off + 2, none⟩ = some (.bool (rd_T171 xs i).f2) ∧ w.cell? ⟨(ad.add (i.toNat * 5)).block, (ad.add (i.toNat * 5)).off + 3, none⟩ = some (.slice A3 (rd_T171 xs i).f3.length c3) ∧ w.cell? ⟨(ad.add (i.toNat * 5)).block, (ad.add (i.toNat * 5)).off + 4, none⟩ = some (.slice A4 (rd_T171 xs i).f4.length c4) ∧ (rd_T171 xs i).f0.length ≤ c0 ∧ k173.C w A0 (rd_T171 xs i).f0.length (rd_T171 xs i).f0 ∧ (rd_T171 xs i).f3.length ≤ c3 ∧ k224.C w A3 (rd_T171 xs i).f3.length (rd_T171 xs i).f3 ∧ (rd_T171 xs i).f4.length ≤ c4 ∧ k226.C w A4 (rd_T171 xs i).f4.length (rd_T171 xs i).f4 := by
  obtain ⟨ad, c, e, _, hK, hc0⟩ := Kd.C_get h z171 i h0 h1
  have hc : ∀ j u, c[j]? = some u → w.cell? (ad.add (i.toNat * 5 + j)) = some u := hc0
  obtain ⟨A0, c0, A3, c3, A4, c4, rfl, l0, g0, l3, g3, l4, g4⟩ := k171_open hK
  exact ⟨ad, A0, c0, A3, c3, A4, c4, e, hc 0 _ rfl, by rw [← add_field _ _ 1 (by omega)]; exact hc 1 _ rfl, by rw [← add_field _ _ 2 (by omega)]; exact hc 2 _ rfl, by rw [← add_field _ _ 3 (by omega)]; exact hc 3 _ rfl, by rw [← add_field _ _ 4 (by omega)]; exact hc 4 _ rfl, l0, g0, l3, g3, l4, g4⟩
structure S176 where
  f0 : Int
  f1 : S173
  f2 : Int
  f3 : Int
  f4 : Int
  f5 : S174
def z176 : S176 := ⟨(0 : Int), z173, (0 : Int), (0 : Int), (0 : Int), z174⟩
def k176 : Kd S176 := Kd.iso (Kd.pair (Kd.int .i64) (Kd.pair k173 (Kd.pair (Kd.int .i64) (Kd.pair (Kd.int .i64) (Kd.pair (Kd.int .i64) k174))))) (fun x : S176 => (x.f0, x.f1, x.f2, x.f3, x.f4, x.f5))
theorem k176_open {w : World} {x : S176} {cs : List Value} (h : k176.K w x cs) : ∃ A8 c8, cs = [.int .i64 x.f0, .int .i64 x.f1.f0, .int .i64 x.f1.f1, .int .i64 x.f1.f2, .int .i64 x.f2, .int .i64 x.f3, .int .i64 x.f4, .int .i64 x.f5.f0, .slice A8 x.f5.f1.length c8] ∧ x.f5.f1.length ≤ c8 ∧ (Kd.int .i64).C w A8 x.f5.f1.length x.f5.f1 := by
  obtain ⟨_, _, rfl, rfl, ⟨_, _, rfl, s1, ⟨_, _, rfl, rfl, ⟨_, _, rfl, rfl, ⟨_, _, rfl, rfl, s7⟩⟩⟩⟩⟩ := h
  obtain rfl := k173_open s1
  obtain ⟨A8, c8, rfl, l8, g8⟩ := k174_open s7
  exact ⟨A8, c8, rfl, l8, g8⟩
def rd_T176 (xs : List S176) (i : Int) : S176 := xs.getD i.toNat z176
theorem at_T176 {w : World} {A : Option Addr} {n : Nat} {xs : List S176} (h : Kd.C k176 w A n xs) (i : Int) (h0 : 0 ≤ i) (h1 : i < n) : ∃ ad A8 c8, A = some ad ∧ w.cell? (ad.add (i.toNat * 9)) = some (.int .i64 (rd_T176 xs i).f0) ∧ w.cell? ⟨(ad.add (i.toNat * 9)).block, (ad.add (i.toNat * 9)).off + 1, none⟩ = some (.int .i64 (rd_T176 xs i).f1.f0) ∧ w.cell? ⟨(ad.add (i.toNat * 9)).block, (ad.add (i.toNat * 9)).off + 2, none⟩ = some (.int .i64 (rd_T176 xs i).f1.f1) ∧ w.cell? ⟨(ad.add (i.toNat * 9)).block, (ad.add (i.toNat * 9)).off + 3, none⟩ = some (.int .i64 (rd_T176 xs i).f1.f2) ∧ w.cell? ⟨(ad.add (i.toNat * 9)).block, (ad.add (i.toNat * 9)).off + 4, none⟩ = some (.int .i64 (rd_T176 xs i).f2) ∧ w.cell? ⟨(ad.add (i.toNat * 9)).block, (ad.add (i.toNat * 9)).off + 5, none⟩ = some (.int .i64 (rd_T176 xs i).f3) ∧ w.cell? ⟨(ad.add (i.toNat * 9)).block, (ad.add (i.toNat * 9)).off + 6, none⟩ = some (.int .i64 (rd_T176 xs i).f4) ∧ w.cell? ⟨(ad.add (i.toNat * 9)).block, (ad.add (i.toNat * 9)).off + 7, none⟩ = some (.int .i64 (rd_T176 xs i).f5.f0) ∧ w.cell? ⟨(ad.add (i.toNat * 9)).block, (ad.add (i.toNat * 9)).off + 8, none⟩ = some (.slice A8 (rd_T176 xs i).f5.f1.length c8) ∧ (rd_T176 xs i).f5.f1.length ≤ c8 ∧ (Kd.int .i64).C w A8 (rd_T176 xs i).f5.f1.length (rd_T176 xs i).f5.f1 := by
  obtain ⟨ad, c, e, _, hK, hc0⟩ := Kd.C_get h z176 i h0 h1
  have hc : ∀ j u, c[j]? = some u → w.cell? (ad.add (i.toNat * 9 + j)) = some u := hc0
  obtain ⟨A8, c8, rfl, l8, g8⟩ := k176_open hK
  exact ⟨ad, A8, c8, e, hc 0 _ rfl, by rw [← add_field _ _ 1 (by omega)]; exact hc 1 _ rfl, by rw [← add_field _ _ 2 (by omega)]; exact hc 2 _ rfl, by rw [← add_field _ _ 3 (by omega)]; exact hc 3 _ rfl, by rw [← add_field _ _ 4 (by omega)]; exact hc 4 _ rfl, by rw [← add_field _ _ 5 (by omega)]; exact hc 5 _ rfl, by rw [← add_field _ _ 6 (by omega)]; exact hc 6 _ rfl, by rw [← add_field _ _ 7 (by omega)]; exact hc 7 _ rfl, by rw [← add_field _ _ 8 (by omega)]; exact hc 8 _ rfl, l8, g8⟩
structure S132 where
  f0 : Int
  f1 : Int
  f2 : Int
def z132 : S132 := ⟨(0 : Int), (0 : Int), (0 : Int)⟩
def k132 : Kd S132 := Kd.iso (Kd.pair (Kd.int .i64) (Kd.pair (Kd.int .i64) (Kd.int .i64))) (fun x : S132 => (x.f0, x.f1, x.f2))
theorem k132_open {w : World} {x : S132} {cs : List Value} (h : k132.K w x cs) : cs = [.int .i64 x.f0, .int .i64 x.f1, .int .i64 x.f2] := by
  obtain ⟨_, _, rfl, rfl, ⟨_, _, rfl, rfl, rfl⟩⟩ := h
  exact rfl
theorem k132_openM {w : World} {base : Nat} {ok : Nat → Prop} {x : S132} {cs : List Value} (h : k132.M w base ok x cs) : cs = [.int .i64 x.f0, .int .i64 x.f1, .int .i64 x.f2] := by
  obtain ⟨_, _, rfl, rfl, ⟨_, _, rfl, rfl, rfl⟩⟩ := h
  exact rfl
theorem k132_mkM (w : World) (base : Nat) (ok : Nat → Prop) (x : S132)  : k132.M w base ok x [.int .i64 x.f0, .int .i64 x.f1, .int .i64 x.f2] := ⟨[.int .i64 x.f0], [.int .i64 x.f1, .int .i64 x.f2], rfl, rfl, ⟨[.int .i64 x.f1], [.int .i64 x.f2], rfl, rfl, rfl⟩⟩
def rd_T132 (xs : List S132) (i : Int) : S132 := xs.getD i.toNat z132
theorem at_T132 {w : World} {A : Option Addr} {n : Nat} {xs : List S132} (h : Kd.C k132 w A n xs) (i : Int) (h0 : 0 ≤ i) (h1 : i < n) : ∃ ad , A = some ad ∧ w.cell? (ad.add (i.toNat * 3)) = some (.int .i64 (rd_T132 xs i).f0) ∧ w.cell? ⟨(ad.add (i.toNat * 3)).block, (ad.add (i.toNat * 3)).off + 1, none⟩ = some (.int .i64 (rd_T132 xs i).f1) ∧ w.cell? ⟨(ad.add (i.toNat * 3)).block, (ad.add (i.toNat * 3)).off + 2, none⟩ = some (.int .i64 (rd_T132 xs i).f2) := by
  obtain ⟨ad, c, e, _, hK, hc0⟩ := Kd.C_get h z132 i h0 h1
  have hc : ∀ j u, c[j]? = some u → w.cell? (ad.add (i.toNat * 3 + j)) = some u := hc0
  obtain rfl := k132_open hK
  exact ⟨ad, e, hc 0 _ rfl, by rw [← add_field _ _ 1 (by omega)]; exact hc 1 _ rfl, by rw [← add_field _ _ 2 (by omega)]; exact hc 2 _ rfl⟩
structure S145 where
  f0 : Int
  f1 : Int
def z145 : S145 := ⟨(0 : Int), (0 : Int)⟩
def k145 : Kd S145 := Kd.iso (Kd.pair (Kd.int .i64) (Kd.int .i64)) (fun x : S145 => (x.f0, x.f1))
theorem k145_open {w : World} {x : S145} {cs : List Value} (h : k145.K w x cs) : cs = [.int .i64 x.f0, .int .i64 x.f1] := by
  obtain ⟨_, _, rfl, rfl, rfl⟩ := h
  exact rfl
theorem k145_openM {w : World} {base : Nat} {ok : Nat → Prop} {x : S145} {cs : List Value} (h : k145.M w base ok x cs) : cs = [.int .i64 x.f0, .int .i64 x.f1] := by
  obtain ⟨_, _, rfl, rfl, rfl⟩ := h
  exact rfl
theorem k145_mkM (w : World) (base : Nat) (ok : Nat → Prop) (x : S145)  : k145.M w base ok x [.int .i64 x.f0, .int .i64 x.f1] := ⟨[.int .i64 x.f0], [.int .i64 x.f1], rfl, rfl, rfl⟩
def rd_T145 (xs : List S145) (i : Int) : S145 := xs.getD i.toNat z145
theorem at_T145 {w : World} {A : Option Addr} {n : Nat} {xs : List S145} (h : Kd.C k145 w A n xs) (i : Int) (h0 : 0 ≤ i) (h1 : i < n) : ∃ ad , A = some ad ∧ w.cell? (ad.add (i.toNat * 2)) = some (.int .i64 (rd_T145 xs i).f0) ∧ w.cell? ⟨(ad.add (i.toNat * 2)).block, (ad.add (i.toNat * 2)).off + 1, none⟩ = some (.int .i64 (rd_T145 xs i).f1) := by
  obtain ⟨ad, c, e, _, hK, hc0⟩ := Kd.C_get h z145 i h0 h1
  have hc : ∀ j u, c[j]? = some u → w.cell? (ad.add (i.toNat * 2 + j)) = some u := hc0
  obtain rfl := k145_open hK
  exact ⟨ad, e, hc 0 _ rfl, by rw [← add_field _ _ 1 (by omega)]; exact hc 1 _ rfl⟩
structure S42 where
  f0 : Int
  f1 : Int
  f2 : Int
  f3 : Int
def z42 : S42 := ⟨(0 : Int), (0 : Int), (0 : Int), (0 : Int)⟩
def k42 : Kd S42 := Kd.iso (Kd.pair (Kd.int .i64) (Kd.pair (Kd.int .i64) (Kd.pair (Kd.int .i64) (Kd.int .i64)))) (fun x : S42 => (x.f0, x.f1, x.f2, x.f3))
theorem k42_open {w : World} {x : S42} {cs : List Value} (h : k42.K w x cs) : cs = [.int .i64 x.f0, .int .i64 x.f1, .int .i64 x.f2, .int .i64 x.f3] := by
  obtain ⟨_, _, rfl, rfl, ⟨_, _, rfl, rfl, ⟨_, _, rfl, rfl, rfl⟩⟩⟩ := h
  exact rfl
theorem k42_openM {w : World} {base : Nat} {ok : Nat → Prop} {x : S42} {cs : List Value} (h : k42.M w base ok x cs) : cs = [.int .i64 x.f0, .int .i64 x.f1, .int .i64 x.f2, .int .i64 x.f3] := by
  obtain ⟨_, _, rfl, rfl, ⟨_, _, rfl, rfl, ⟨_, _, rfl, rfl, rfl⟩⟩⟩ := h
  exact rfl
theorem k42_mkM (w : World) (base : Nat) (ok : Nat → Prop) (x : S42)  : k42.M w base ok x [.int .i64 x.f0, .int .i64 x.f1, .int .i64 x.f2, .int .i64 x.f3] := ⟨[.int .i64 x.f0], [.int .i64 x.f1, .int .i64 x.f2, .int .i64 x.f3], rfl, rfl, ⟨[.int .i64 x.f1], [.int .i64 x.f2, .int .i64 x.f3], rfl, rfl, ⟨[.int .i64 x.f2], [.int .i64 x.f3], rfl, rfl, rfl⟩⟩⟩
def rd_T42 (xs : List S42) (i : Int) : S42 := xs.getD i.toNat z42
theorem at_T42 {w : World} {A : Option Addr} {n : Nat} {xs : List S42} (h : Kd.C k42 w A n xs) (i : Int) (h0 : 0 ≤ i) (h1 : i < n) : ∃ ad , A = some ad ∧ w.cell? (ad.add (i.toNat * 4)) = some (.int .i64 (rd_T42 xs i).f0) ∧ w.cell? ⟨(ad.add (i.toNat * 4)).block, (ad.add (i.toNat * 4)).off + 1, none⟩ = some (.int .i64 (rd_T42 xs i).f1) ∧ w.cell? ⟨(ad.add (i.toNat * 4)).block, (ad.add (i.toNat * 4)).off + 2, none⟩ = some (.int .i64 (rd_T42 xs i).f2) ∧ w.cell? ⟨(ad.add (i.toNat * 4)).block, (ad.add (i.toNat * 4)).off + 3, none⟩ = some (.int .i64 (rd_T42 xs i).f3) := by
  obtain ⟨ad, c, e, _, hK, hc0⟩ := Kd.C_get h z42 i h0 h1
  have hc : ∀ j u, c[j]? = some u → w.cell? (ad.add (i.toNat * 4 + j)) = some u := hc0
  obtain rfl := k42_open hK
  exact ⟨ad, e, hc 0 _ rfl, by rw [← add_field _ _ 1 (by omega)]; exact hc 1 _ rfl, by rw [← add_field _ _ 2 (by omega)]; exact hc 2 _ rfl, by rw [← add_field _ _ 3 (by omega)]; exact hc 3 _ rfl⟩
structure S37 where
  f0 : Int
  f1 : Int
  f2 : Int
def z37 : S37 := ⟨(0 : Int), (0 : Int), (0 : Int)⟩
def k37 : Kd S37 := Kd.iso (Kd.pair (Kd.int .i64) (Kd.pair (Kd.int .i64) (Kd.int .i64))) (fun x : S37 => (x.f0, x.f1, x.f2))
theorem k37_open {w : World} {x : S37} {cs : List Value} (h : k37.K w x cs) : cs = [.int .i64 x.f0, .int .i64 x.f1, .int .i64 x.f2] := by
  obtain ⟨_, _, rfl, rfl, ⟨_, _, rfl, rfl, rfl⟩⟩ := h
  exact rfl
theorem k37_openM {w : World} {base : Nat} {ok : Nat → Prop} {x : S37} {cs : List Value} (h : k37.M w base ok x cs) : cs = [.int .i64 x.f0, .int .i64 x.f1, .int .i64 x.f2] := by
  obtain ⟨_, _, rfl, rfl, ⟨_, _, rfl, rfl, rfl⟩⟩ := h
  exact rfl
theorem k37_mkM (w : World) (base : Nat) (ok : Nat → Prop) (x : S37)  : k37.M w base ok x [.int .i64 x.f0, .int .i64 x.f1, .int .i64 x.f2] := ⟨[.int .i64 x.f0], [.int .i64 x.f1, .int .i64 x.f2], rfl, rfl, ⟨[.int .i64 x.f1], [.int .i64 x.f2], rfl, rfl, rfl⟩⟩
def rd_T37 (xs : List S37) (i : Int) : S37 := xs.getD i.toNat z37
theorem at_T37 {w : World} {A : Option Addr} {n : Nat} {xs : List S37} (h : Kd.C k37 w A n xs) (i : Int) (h0 : 0 ≤ i) (h1 : i < n) : ∃ ad , A = some ad ∧ w.cell? (ad.add (i.toNat * 3)) = some (.int .i64 (rd_T37 xs i).f0) ∧ w.cell? ⟨(ad.add (i.toNat * 3)).block, (ad.add (i.toNat * 3)).off + 1, none⟩ = some (.int .i64 (rd_T37 xs i).f1) ∧ w.cell? ⟨(ad.add (i.toNat * 3)).block, (ad.add (i.toNat * 3)).off + 2, none⟩ = some (.int .i64 (rd_T37 xs i).f2) := by
  obtain ⟨ad, c, e, _, hK, hc0⟩ := Kd.C_get h z37 i h0 h1
  have hc : ∀ j u, c[j]? = some u → w.cell? (ad.add (i.toNat * 3 + j)) = some u := hc0
  obtain rfl := k37_open hK
  exact ⟨ad, e, hc 0 _ rfl, by rw [← add_field _ _ 1 (by omega)]; exact hc 1 _ rfl, by rw [← add_field _ _ 2 (by omega)]; exact hc 2 _ rfl⟩
structure S31 where
  f0 : Int
  f1 : (List Int)
def z31 : S31 := ⟨(0 : Int), ([] : List Int)⟩
def k31 : Kd S31 := Kd.iso (Kd.pair (Kd.int .i64) (Kd.slice 3 (Kd.int .i64))) (fun x : S31 => (x.f0, x.f1))
theorem k31_open {w : World} {x : S31} {cs : List Value} (h : k31.K w x cs) : ∃ A1 c1, cs = [.int .i64 x.f0, .slice A1 x.f1.length c1] ∧ x.f1.length ≤ c1 ∧ (Kd.int .i64).C w A1 x.f1.length x.f1 := by
  obtain ⟨_, _, rfl, rfl, ⟨A1, c1, rfl, l1, g1⟩⟩ := h
  exact ⟨A1, c1, rfl, l1, g1⟩
theorem k31_openM {w : World} {base : Nat} {ok : Nat → Prop} {x : S31} {cs : List Value} (h : k31.M w base ok x cs) : ∃ v1, cs = [.int .i64 x.f0, v1] ∧ (Kd.int .i64).R 3 w base ok v1 x.f1 := by
  obtain ⟨_, _, rfl, rfl, ⟨v1, rfl, g1⟩⟩ := h
  exact ⟨v1, rfl, g1⟩
theorem k31_mkM (w : World) (base : Nat) (ok : Nat → Prop) (x : S31) {v1 : Value} (g1 : (Kd.int .i64).R 3 w base ok v1 x.f1) : k31.M w base ok x [.int .i64 x.f0, v1] := ⟨[.int .i64 x.f0], [v1], rfl, rfl, ⟨v1, rfl, g1⟩⟩
structure S52 where
  f0 : Int
  f1 : Int
  f2 : (List S37)
  f3 : S31
def z52 : S52 := ⟨(0 : Int), (0 : Int), ([] : List S37), z31⟩
def k52 : Kd S52 := Kd.iso (Kd.pair (Kd.int .i64) (Kd.pair (Kd.int .i64) (Kd.pair (Kd.slice 37 k37) k31))) (fun x : S52 => (x.f0, x.f1, x.f2, x.f3))
theorem k52_open {w : World} {x : S52} {cs : List Value} (h : k52.K w x cs) : ∃ A2 c2 A4 c4, cs = [.int .i64 x.f0, .int .i64 x.f1, .slice A2 x.f2.length c2, .int .i64 x.f3.f0, .slice A4 x.f3.f1.length c4] ∧ x.f2.length ≤ c2 ∧ k37.C w A2 x.f2.length x.f2 ∧ x.f3.f1.length ≤ c4 ∧ (Kd.int .i64).C w A4 x.f3.f1.length x.f3.f1 := by
  obtain ⟨_, _, rfl, rfl, ⟨_, _, rfl, rfl, ⟨_, _, rfl, ⟨A2, c2, rfl, l2, g2⟩, s3⟩⟩⟩ := h
  obtain ⟨A4, c4, rfl, l4, g4⟩ := k31_open s3
  exact ⟨A2, c2, A4, c4, rfl, l2, g2, l4, g4⟩
theorem k52_openM {w : World} {base : Nat} {ok : Nat → Prop} {x : S52} {cs : List Value} (h : k52.M w base ok x cs) : ∃ v2 v4, cs = [.int .i64 x.f0, .int .i64 x.f1, v2, .int .i64 x.f3.f0, v4] ∧ k37.R 37 w base ok v2 x.f2 ∧ (Kd.int .i64).R 3 w base ok v4 x.f3.f1 := by
  obtain ⟨_, _, rfl, rfl, ⟨_, _, rfl, rfl, ⟨_, _, rfl, ⟨v2, rfl, g2⟩, s3⟩⟩⟩ := h
  obtain ⟨v4, rfl, g4⟩ := k31_openM s3
  exact ⟨v2, v4, rfl, g2, g4⟩
theorem k52_mkM (w : World) (base : Nat) (ok : Nat → Prop) (x : S52) {v2 : Value} (g2 : k37.R 37 w base ok v2 x.f2) {v4 : Value} (g4 : (Kd.int .i64).R 3 w base ok v4 x.f3.f1) : k52.M w base ok x [.int .i64 x.f0, .int .i64 x.f1, v2, .int .i64 x.f3.f0, v4] := ⟨[.int .i64 x.f0], [.int .i64 x.f1, v2, .int .i64 x.f3.f0, v4], rfl, rfl, ⟨[.int .i64 x.f1], [v2, .int .i64 x.f3.f0, v4], rfl, rfl, ⟨[v2], [.int .i64 x.f3.f0, v4], rfl, ⟨v2, rfl, g2⟩, (k31_mkM w base ok x.f3 g4)⟩⟩⟩
def rd_T52 (xs : List S52) (i : Int) : S52 := xs.getD i.toNat z52
theorem at_T52 {w : World} {A : Option Addr} {n : Nat} {xs : List S52} (h : Kd.C k52 w A n xs) (i : Int) (h0 : 0 ≤ i) (h1 : i < n) : ∃ ad A2 c2 A4 c4, A = some ad ∧ w.cell? (ad.add (i.toNat * 5)) = some (.int .i64 (rd_T52 xs i).f0) ∧ w.cell? ⟨(ad.add (i.toNat * 5)).block, (ad.add (i.toNat * 5)).off + 1, none⟩ = some (.int .i64 (rd_T52 xs i).f1) ∧ w.cell? ⟨(ad.add (i.toNat * 5)).block, (ad.add (i.toNat * 5)).off + 2, none⟩ = some (.slice A2 (rd_T52 xs i).f2.length c2) ∧ w.cell? ⟨(ad.add (i.toNat * 5)).block, (ad.add (i.toNat * 5)).off + 3, none⟩ = some (.int .i64 (rd_T52 xs i).f3.f0) ∧ w.cell? ⟨(ad.add (i.toNat * 5)).block, (ad.add (i.toNat * 5)).off + 4, none⟩ = some (.slice A4 (rd_T52 xs i).f3.f1.length c4) ∧ (rd_T52 xs i).f2.length ≤ c2 ∧ k37.C w A2 (rd_T52 xs i).f2.length (rd_T52 xs i).f2 ∧ (rd_T52 xs i).f3.f1.length ≤ c4 ∧ (Kd.int .i64).C w A4 (rd_T52 xs i).f3.f1.length (rd_T52 xs i).f3.f1 := by
  obtain ⟨ad, c, e, _, hK, hc0⟩ := Kd.C_get h z52 i h0 h1
  have hc : ∀ j u, c[j]? = some u → w.cell? (ad.add (i.toNat * 5 + j)) = some u := hc0
  obtain ⟨A2, c2, A4, c4, rfl, l2, g2, l4, g4⟩ := k52_open hK
  exact ⟨ad, A2, c2, A4, c4, e, hc 0 _ rfl, by rw [← add_field _ _ 1 (by omega)]; exact hc 1 _ rfl, by rw [← add_field _ _ 2 (by omega)]; exact hc 2 _ rfl, by rw [← add_field _ _ 3 (by omega)]; exact hc 3 _ rfl, by rw [← add_field _ _ 4 (by omega)]; exact hc 4 _ rfl, l2, g2, l4, g4⟩
structure S39 where
  f0 : Int
  f1 : Int
  f2 : Int
def z39 : S39 := ⟨(0 : Int), (0 : Int), (0 : Int)⟩
def k39 : Kd S39 := Kd.iso (Kd.pair (Kd.int .i64) (Kd.pair (Kd.int .i64) (Kd.int .i64))) (fun x : S39 => (x.f0, x.f1, x.f2))
theorem k39_open {w : World} {x : S39} {cs : List Value} (h : k39.K w x cs) : cs = [.int .i64 x.f0, .int .i64 x.f1, .int .i64 x.f2] := by
  obtain ⟨_, _, rfl, rfl, ⟨_, _, rfl, rfl, rfl⟩⟩ := h
  exact rfl
theorem k39_openM {w : World} {base : Nat} {ok : Nat → Prop} {x : S39} {cs : List Value} (h : k39.M w base ok x cs) : cs = [.int .i64 x.f0, .int .i64 x.f1, .int .i64 x.f2] := by
  obtain ⟨_, _, rfl, rfl, ⟨_, _, rfl, rfl, rfl⟩⟩ := h
  exact rfl
theorem k39_mkM (w : World) (base : Nat) (ok : Nat → Prop) (x : S39)  : k39.M w base ok x [.int .i64 x.f0, .int .i64 x.f1, .int .i64 x.f2] := ⟨[.int .i64 x.f0], [.int .i64 x.f1, .int .i64 x.f2], rfl, rfl, ⟨[.int .i64 x.f1], [.int .i64 x.f2], rfl, rfl, rfl⟩⟩
def rd_T39 (xs : List S39) (i : Int) : S39 := xs.getD i.toNat z39
theorem at_T39 {w : World} {A : Option Addr} {n : Nat} {xs : List S39} (h : Kd.C k39 w A n xs) (i : Int) (h0 : 0 ≤ i) (h1 : i < n) : ∃ ad , A = some ad ∧ w.cell? (ad.add (i.toNat * 3)) = some (.int .i64 (rd_T39 xs i).f0) ∧ w.cell? ⟨(ad.add (i.toNat * 3)).block, (ad.add (i.toNat * 3)).off + 1, none⟩ = some (.int .i64 (rd_T39 xs i).f1) ∧ w.cell? ⟨(ad.add (i.toNat * 3)).block, (ad.add (i.toNat * 3)).off + 2, none⟩ = some (.int .i64 (rd_T39 xs i).f2) := by
  obtain ⟨ad, c, e, _, hK, hc0⟩ := Kd.C_get h z39 i h0 h1
  have hc : ∀ j u, c[j]? = some u → w.cell? (ad.add (i.toNat * 3 + j)) = some u := hc0
  obtain rfl := k39_open hK
  exact ⟨ad, e, hc 0 _ rfl, by rw [← add_field _ _ 1 (by omega)]; exact hc 1 _ rfl, by rw [← add_field _ _ 2 (by omega)]; exact hc 2 _ rfl⟩
structure S82 where
  f0 : (List S132)
  f1 : Int
  f2 : Bool
  f3 : (List S145)
  f4 : (List S42)
def z82 : S82 := ⟨([] : List S132), (0 : Int), false, ([] : List S145), ([] : List S42)⟩
def k82 : Kd S82 := Kd.iso (Kd.pair (Kd.slice 132 k132) (Kd.pair (Kd.int .i64) (Kd.pair Kd.bool (Kd.pair (Kd.slice 145 k145) (Kd.slice 42 k42))))) (fun x : S82 => (x.f0, x.f1, x.f2, x.f3, x.f4))
theorem k82_open {w : World} {x : S82} {cs : List Value} (h : k82.K w x cs) : ∃ A0 c0 A3 c3 A4 c4, cs = [.slice A0 x.f0.length c0, .int .i64 x.f1, .bool x.f2, .slice A3 x.f3.length c3, .slice A4 x.f4.length c4] ∧ x.f0.length ≤ c0 ∧ k132.C w A0 x.f0.length x.f0 ∧ x.f3.length ≤ c3 ∧ k145.C w A3 x.f3.length x.f3 ∧ x.f4.length ≤ c4 ∧ k42.C w A4 x.f4.length x.f4 := by
  obtain ⟨_, _, rfl, ⟨A0, c0, rfl, l0, g0⟩, ⟨_, _, rfl, rfl, ⟨_, _, rfl, rfl, ⟨_, _, rfl, ⟨A3, c3, rfl, l3, g3⟩, ⟨A4, c4, rfl, l4, g4⟩⟩⟩⟩⟩ := h
  exact ⟨A0, c0, A3, c3, A4, c4, rfl, l0, g0, l3, g3, l4, g4⟩
theorem k82_openM {w : World} {base : Nat} {ok : Nat → Prop} {x : S82} {cs : List Value} (h : k82.M w base ok x cs) : ∃ v0 v3 v4, cs = [v0, .int .i64 x.f1, .bool x.f2, v3, v4] ∧ k132.R 132 w base ok v0 x.f0 ∧ k145.R 145 w base ok v3 x.f3 ∧ k42.R 42 w base ok v4 x.f4 := by
  obtain ⟨_, _, rfl, ⟨v0, rfl, g0⟩, ⟨_, _, rfl, rfl, ⟨_, _, rfl, rfl, ⟨_, _, rfl, ⟨v3, rfl, g3⟩, ⟨v4, rfl, g4⟩⟩⟩⟩⟩ := h
  exact ⟨v0, v3, v4, rfl, g0, g3, g4⟩
theorem k82_mkM (w : World) (base : Nat) (ok : Nat → Prop) (x : S82) {v0 : Value} (g0 : k132.R 132 w base ok v0 x.f0) {v3 : Value} (g3 : k145.R 145 w base ok v3 x.f3) {v4 : Value} (g4 : k42.R 42 w base ok v4 x.f4) : k82.M w base ok x [v0, .int .i64 x.f1, .bool x.f2, v3, v4] := ⟨[v0], [.int .i64 x.f1, .bool x.f2, v3, v4], rfl, ⟨v0, rfl, g0⟩, ⟨[.int .i64 x.f1], [.bool x.f2, v3, v4], rfl, rfl, ⟨[.bool x.f2], [v3, v4], rfl, rfl, ⟨[v3], [v4], rfl, ⟨v3, rfl, g3⟩, ⟨v4, rfl, g4⟩⟩⟩⟩⟩
def rd_T82 (xs : List S82) (i : Int) : S82 := xs.getD i.toNat z82
theorem at_T82 {w : World} {A : Option Addr} {n : Nat} {xs : List S82} (h : Kd.C k82 w A n xs) (i : Int) (h0 : 0 ≤ i) (h1 : i < n) : ∃ ad A0 c0 A3 c3 A4 c4, A = some ad ∧ w.cell? (ad.add (i.toNat * 5)) = some (.slice A0 (rd_T82 xs i).f0.length c0) ∧ w.cell? ⟨(ad.add (i.toNat * 5)).block, (ad.add (i.toNat * 5)).off + 1, none⟩ = some (.int .i64 (rd_T82 xs i).f1) ∧ w.cell? ⟨(ad.add (i.toNat * 5)).block, (ad.add (i.toNat * 5)).off + 2, none⟩ = some (.bool (rd_T82 xs i).f2) ∧ w.cell? ⟨(ad.add (i.toNat * 5)).block, (ad.add (i.toNat * 5)).off + 3, none⟩ = some (.slice A3 (rd_T82 xs i).f3.length c3) ∧ w.cell? ⟨(ad.add (i.toNat * 5)).block, (ad.add (i.toNat * 5)).off + 4, none⟩ = some (.slice A4 (rd_T82 xs i).f4.length c4) ∧ (rd_T82 xs i).f0.length ≤ c0 ∧ k132.C w A0 (rd_T82 xs i).f0.length (rd_T82 xs i).f0 ∧ (rd_T82 xs i).f3.length ≤ c3 ∧ k145.C w A3 (rd_T82 xs i).f3.length (rd_T82 xs i).f3 ∧ (rd_T82 xs i).f4.length ≤ c4 ∧ k42.C w A4 (rd_T82 xs i).f4.length (rd_T82 xs i).f4 := by
  obtain ⟨ad, c, e, _, hK, hc0⟩ := Kd.C_get h z82 i h0 h1
  have hc : ∀ j u, c[j]? = some u → w.cell? (ad.add (i.toNat * 5 + j)) = some u := hc0
  obtain ⟨A0, c0, A3, c3, A4, c4, rfl, l0, g0, l3, g3, l4, g4⟩ := k82_open hK
  exact ⟨ad, A0, c0, A3, c3, A4, c4, e, hc 0 _ rfl, by rw [← add_field _ _ 1 (by omega)]; exact hc 1 _ rfl, by rw [← add_field _ _ 2 (by omega)]; exact hc 2 _ rfl, by rw [← add_field _ _ 3 (by omega)]; exact hc 3 _ rfl, by rw [← add_field _ _ 4 (by omega)]; exact hc 4 _ rfl, l0, g0, l3, g3, l4, g4⟩
structure S134 where
  f0 : Int
  f1 : S132
  f2 : Int
  f3 : Int
  f4 : Int
  f5 : S31
def z134 : S134 := ⟨(0 : Int), z132, (0 : Int), (0 : Int), (0 : Int), z31⟩
def k134 : Kd S134 := Kd.iso (Kd.pair (Kd.int .i64) (Kd.pair k132 (Kd.pair (Kd.int .i64) (Kd.pair (Kd.int .i64) (Kd.pair (Kd.int .i64) k31))))) (fun x : S134 => (x.f0, x.f1, x.f2, x.f3, x.f4, x.f5))
theorem k134_open {w : World} {x : S134} {cs : List Value} (h : k134.K w x cs) : ∃ A8 c8, cs = [.int .i64 x.f0, .int .i64 x.f1.f0, .int .i64 x.f1.f1, .int .i64 x.f1.f2, .int .i64 x.f2, .int .i64 x.f3, .int .i64 x.f4, .int .i64 x.f5.f0, .slice A8 x.f5.f1.length c8] ∧ x.f5.f1.length ≤ c8 ∧ (Kd.int .i64).C w A8 x.f5.f1.length x.f5.f1 := by
  obtain ⟨_, _, rfl, rfl, ⟨_, _, rfl, s1, ⟨_, _, rfl, rfl, ⟨_, _, rfl, rfl, ⟨_, _, rfl, rfl, s7⟩⟩⟩⟩⟩ := h
  obtain rfl := k132_open s1
  obtain ⟨A8, c8, rfl, l8, g8⟩ := k31_open s7
  exact ⟨A8, c8, rfl, l8, g8⟩
theorem k134_openM {w : World} {base : Nat} {ok : Nat → Prop} {x : S134} {cs : List Value} (h : k134.M w base ok x cs) : ∃ v8, cs = [.int .i64 x.f0, .int .i64 x.f1.f0, .int .i64 x.f1.f1, .int .i64 x.f1.f2, .int .i64 x.f2, .int .i64 x.f3, .int .i64 x.f4, .int .i64 x.f5.f0, v8] ∧ (Kd.int .i64).R 3 w base ok v8 x.f5.f1 := by
  obtain ⟨_, _, rfl, rfl, ⟨_, _, rfl, s1, ⟨_, _, rfl, rfl, ⟨_, _, rfl, rfl, ⟨_, _, rfl, rfl, s7⟩⟩⟩⟩⟩ := h
  obtain rfl := k132_openM s1
  obtain ⟨v8, rfl, g8⟩ := k31_openM s7
  exact ⟨v8, rfl, g8⟩
theorem k134_mkM (w : World) (base : Nat) (ok : Nat → Prop) (x : S134) {v8 : Value} (g8 : (Kd.int .i64).R 3 w base ok v8 x.f5.f1) : k134.M w base ok x [.int .i64 x.f0, .int .i64 x.f1.f0, .int .i64 x.f1.f1, .int .i64 x.f1.f2, .int .i64 x.f2, .int .i64 x.f3, .int .i64 x.f4, .int .i64 x.f5.f0, v8] := ⟨[.int .i64 x.f0], [.int .i64 x.f1.f0, .int .i64 x.f1.f1, .int .i64 x.f1.f2, .int .i64 x.f2, .int .i64 x.f3, .int .i64 x.f4, .int .i64 x.f5.f0, v8], rfl, rfl, ⟨[.int .i64 x.f1.f0, .int .i64 x.f1.f1, .int .i64 x.f1.f2], [.int .i64 x.f2, .int .i64 x.f3, .int .i64 x.f4, .int .i64 x.f5.f0, v8], rfl, (k132_mkM w base ok x.f1 ), ⟨[.int .i64 x.f2], [.int .i64 x.f3, .int .i64 x.f4, .int .i64 x.f5.f0, v8], rfl, rfl, ⟨[.int .i64 x.f3], [.int .i64 x.f4, .int .i64 x.f5.f0, v8], rfl, rfl, ⟨[.int .i64 x.f4], [.int .i64 x.f5.f0, v8], rfl, rfl, (k31_mkM w base ok x.f5 g8)⟩⟩⟩⟩⟩
def rd_T134 (xs : List S134) (i : Int) : S134 := xs.getD i.toNat z134
theorem at_T134 {w : World} {A : Option Addr} {n : Nat} {xs : List S134} (h : Kd.C k134 w A n xs) (i : Int) (h0 : 0 ≤ i) (h1 : i < n) : ∃ ad A8 c8, A = some ad ∧ w.cell? (ad.add (i.toNat * 9)) = some (.int .i64 (rd_T134 xs i).f0) ∧ w.cell? ⟨(ad.add (i.toNat * 9)).block, (ad.add (i.toNat * 9)).off + 1, none⟩ = some (.int .i64 (rd_T134 xs i).f1.f0) ∧ w.cell? ⟨(ad.add (i.toNat * 9)).block, (ad.add (i.toNat * 9)).off + 2, none⟩ = some (.int .i64 (rd_T134 xs i).f1.f1) ∧ w.cell? ⟨(ad.add (i.toNat * 9)).block, (ad.add (i.toNat * 9)).off + 3, none⟩ = some (.int .i64 (rd_T134 xs i).f1.f2) ∧ w.cell? ⟨(ad.add (i.toNat * 9)).block, (ad.add (i.toNat * 9)).off + 4, none⟩ = some (.int .i64 (rd_T134 xs i).f2) ∧ w.cell? ⟨(ad.add (i.toNat * 9)).block, (ad.add (i.toNat * 9)).off + 5, none⟩ = some (.int .i64 (rd_T134 xs i).f3) ∧ w.cell? ⟨(ad.add (i.toNat * 9)).block, (ad.add (i.toNat * 9)).off + 6, none⟩ = some (.int .i64 (rd_T134 xs i).f4) ∧ w.cell? ⟨(ad.add (i.toNat * 9)).block, (ad.add (i.toNat * 9)).off + 7, none⟩ = some (.int .i64 (rd_T134 xs i).f5.f0) ∧ w.cell? ⟨(ad.add (i.toNat * 9)).block, (ad.add (i.toNat * 9)).off + 8, none⟩ = some (.slice A8 (rd_T134 xs i).f5.f1.length c8) ∧ (rd_T134 xs i).f5.f1.length ≤ c8 ∧ (Kd.int .i64).C w A8 (rd_T134 xs i).f5.f1.length (rd_T134 xs i).f5.f1 := by
  obtain ⟨ad, c, e, _, hK, hc0⟩ := Kd.C_get h z134 i h0 h1
  have hc : ∀ j u, c[j]? = some u → w.cell? (ad.add (i.toNat * 9 + j)) = some u := hc0
  obtain ⟨A8, c8, rfl, l8, g8⟩ := k134_open hK
  exact ⟨ad, A8, c8, e, hc 0 _ rfl, by rw [← add_field _ _ 1 (by omega)]; exact hc 1 _ rfl, by rw [← add_field _ _ 2 (by omega)]; exact hc 2 _ rfl, by rw [← add_field _ _ 3 (by omega)]; exact hc 3 _ rfl, by rw [← add_field _ _ 4 (by omega)]; exact hc 4 _ rfl, by rw [← add_field _ _ 5 (by omega)]; exact hc 5 _ rfl, by rw [← add_field _ _ 6 (by omega)]; exact hc 6 _ rfl, by rw [← add_field _ _ 7 (by omega)]; exact hc 7 _ rfl, by rw [← add_field _ _ 8 (by omega)]; exact hc 8 _ rfl, l8, g8⟩
end Go.Proofs.YtopikhjcbcpiaaaGreat.Q
end
section
namespace Go.Proofs.YtopikhjcbcpiaaaGreat.Q
open Go.RowKit Go.Proofs.YtopikhjcbcpiaaaGreatW.PrintWords Go.Proofs.YtopikhjcbcpiaaaGreatW.PrintLast Go.Proofs.YtopikhjcbcpiaaaGreatW.PrintMore
theorem sA {α : Type} (l : List α) (i : Nat) (a : α) : l.toArray.setIfInBounds i a = (l.set i a).toArray := List.setIfInBounds_toArray _ _ _
theorem sB {α : Type} (l : List α) (a b : α) : (a :: l).set 0 b = b :: l := List.set_cons_zero ..
theorem sC {α : Type} (l : List α) (a b : α) (n : Nat) : (a :: l).set (n + 1) b = a :: l.set n b := List.set_cons_succ ..
theorem er {p : Prop} (h : p := by first | rfl | (simp [errW_none, errW_some] <;> rfl) | (simp [*, errW_none, errW_some] <;> rfl)) : p := h
theorem od {p : Prop} [Decidable p] (h : decide p = true := by first | (with_reducible assumption) | assumption) : p := of_decide_eq_true h
section
variable {w w1 w2 w' : World} {g g' : Nat} {o : Obj}
theorem bk (b : Aside0 (w.heap[g]? = some o)) (f : w.heap[g]? = some o → w'.heap[g]? = some o := by intro h; (with_reducible repeat (first | refine blk_drewN ?_ _ | refine blk_drew ?_ | refine blk_alloc ?_ _)); exact h) : w'.heap[g]? = some o := f b.out
theorem nl_ (hg : g' = w'.heap.size) (b : Aside0 (w.heap[g]? = some o)) (f : w.heap[g]? = some o → w'.heap[g]? = some o := by intro h; (with_reducible repeat (first | refine blk_drewN ?_ _ | refine blk_drew ?_ | refine blk_alloc ?_ _)); exact h) : g ≠ g' := by rw [hg]; exact Nat.ne_of_lt (blk_lt (f b.out))
theorem ng_ (hg : g' = w'.heap.size) (b : Aside0 (w.heap[g]? = some o)) (f : w.heap[g]? = some o → w'.heap[g]? = some o := by intro h; (with_reducible repeat (first | refine blk_drewN ?_ _ | refine blk_drew ?_ | refine blk_alloc ?_ _)); exact h) : g' ≠ g := by rw [hg]; exact Nat.ne_of_gt (blk_lt (f b.out))
theorem bb (b : Aside0 (w.heap[g]? = some o)) (hb : Below w'.heap.size w' w2) (f : w.heap[g]? = some o → w'.heap[g]? = some o := by intro h; (with_reducible repeat (first | refine blk_drewN ?_ _ | refine blk_drew ?_ | refine blk_alloc ?_ _)); exact h) : Aside0 (w2.heap[g]? = some o) := ⟨blk_below (f b.out) hb⟩
theorem cs2_ {xa xb : Value} {t : TypeId} (h : Aside0 (w.heap[g]? = some (.cells #[xa, xb] t (0, 0)))) : w.cell? ⟨g, 0, none⟩ = some xa ∧ w.cell? ⟨g, 1, none⟩ = some xb ∧ w.frozen? ⟨g, 0, none⟩ = false ∧ w.frozen? ⟨g, 1, none⟩ = false := ⟨(blk_cell h.out 0).trans rfl, (blk_cell h.out 1).trans rfl, blk_frozen h.out 0, blk_frozen h.out 1⟩
theorem ds2_ {xa xb : Value} {t : TypeId} (h : Aside0 (w.heap[g]? = some (.cells #[xa, xb] t (0, 0)))) : w.cell? ⟨g, 0, none⟩ = some xa ∧ w.cell? ⟨g, 1, none⟩ = some xb := ⟨(blk_cell h.out 0).trans rfl, (blk_cell h.out 1).trans rfl⟩
theorem cs3_ {xa xb xc : Value} {t : TypeId} (h : Aside0 (w.heap[g]? = some (.cells #[xa, xb, xc] t (0, 0)))) : w.cell? ⟨g, 0, none⟩ = some xa ∧ w.cell? ⟨g, 1, none⟩ = some xb ∧ w.cell? ⟨g, 2, none⟩ = some xc ∧ w.frozen? ⟨g, 0, none⟩ = false ∧ w.frozen? ⟨g, 1, none⟩ = false ∧ w.frozen? ⟨g, 2, none⟩ = false := ⟨(blk_cell h.out 0).trans rfl, (blk_cell h.out 1).trans rfl, (blk_cell h.out 2).trans rfl, blk_frozen h.out 0, blk_frozen h.out 1, blk_frozen h.out 2⟩
theorem ds3_ {xa xb xc : Value} {t : TypeId} (h : Aside0 (w.heap[g]? = some (.cells #[xa, xb, xc] t (0, 0)))) : w.cell? ⟨g, 0, none⟩ = some xa ∧ w.cell? ⟨g, 1, none⟩ = some xb ∧ w.cell? ⟨g, 2, none⟩ = some xc := ⟨(blk_cell h.out 0).trans rfl, (blk_cell h.out 1).trans rfl, (blk_cell h.out 2).trans rfl⟩
theorem cs4_ {xa xb xc xd : Value} {t : TypeId} (h : Aside0 (w.heap[g]? = some (.cells #[xa, xb, xc, xd] t (0, 0)))) : w.cell? ⟨g, 0, none⟩ = some xa ∧ w.cell? ⟨g, 1, none⟩ = some xb ∧ w.cell? ⟨g, 2, none⟩ = some xc ∧ w.cell? ⟨g, 3, none⟩ = some xd ∧ w.frozen? ⟨g, 0, none⟩ = false ∧ w.frozen? ⟨g, 1, none⟩ = false ∧ w.frozen? ⟨g, 2, none⟩ = false ∧ w.frozen? ⟨g, 3, none⟩ = false := ⟨(blk_cell h.out 0).trans rfl, (blk_cell h.out 1).trans rfl, (blk_cell h.out 2).trans rfl, (blk_cell h.out 3).trans rfl, blk_frozen h.out 0, blk_frozen h.out 1, blk_frozen h.out 2, blk_frozen h.out 3⟩
theorem cs5_ {xa xb xc xd xe : Value} {t : TypeId} (h : Aside0 (w.heap[g]? = some (.cells #[xa, xb, xc, xd, xe] t (0, 0)))) : w.cell? ⟨g, 0, none⟩ = some xa ∧ w.cell? ⟨g, 1, none⟩ = some xb ∧ w.cell? ⟨g, 2, none⟩ = some xc ∧ w.cell? ⟨g, 3, none⟩ = some xd ∧ w.cell? ⟨g, 4, none⟩ = some xe ∧ w.frozen? ⟨g, 0, none⟩ = false ∧ w.frozen? ⟨g, 1, none⟩ = false ∧ w.frozen? ⟨g, 2, none⟩ = false ∧ w.frozen? ⟨g, 3, none⟩ = false ∧ w.frozen? ⟨g, 4, none⟩ = false := ⟨(blk_cell h.out 0).trans rfl, (blk_cell h.out 1).trans rfl, (blk_cell h.out 2).trans rfl, (blk_cell h.out 3).trans rfl, (blk_cell h.out 4).trans rfl, blk_frozen h.out 0, blk_frozen h.out 1, blk_frozen h.out 2, blk_frozen h.out 3, blk_frozen h.out 4⟩
theorem ds5_ {xa xb xc xd xe : Value} {t : TypeId} (h : Aside0 (w.heap[g]? = some (.cells #[xa, xb, xc, xd, xe] t (0, 0)))) : w.cell? ⟨g, 0, none⟩ = some xa ∧ w.cell? ⟨g, 1, none⟩ = some xb ∧ w.cell? ⟨g, 2, none⟩ = some xc ∧ w.cell? ⟨g, 3, none⟩ = some xd ∧ w.cell? ⟨g, 4, none⟩ = some xe := ⟨(blk_cell h.out 0).trans rfl, (blk_cell h.out 1).trans rfl, (blk_cell h.out 2).trans rfl, (blk_cell h.out 3).trans rfl, (blk_cell h.out 4).trans rfl⟩
theorem cs8_ {xa xb xc xd xe xf xg xh : Value} {t : TypeId} (h : Aside0 (w.heap[g]? = some (.cells #[xa, xb, xc, xd, xe, xf, xg, xh] t (0, 0)))) : w.cell? ⟨g, 0, none⟩ = some xa ∧ w.cell? ⟨g, 1, none⟩ = some xb ∧ w.cell? ⟨g, 2, none⟩ = some xc ∧ w.cell? ⟨g, 3, none⟩ = some xd ∧ w.cell? ⟨g, 4, none⟩ = some xe ∧ w.cell? ⟨g, 5, none⟩ = some xf ∧ w.cell? ⟨g, 6, none⟩ = some xg ∧ w.cell? ⟨g, 7, none⟩ = some xh ∧ w.frozen? ⟨g, 0, none⟩ = false ∧ w.frozen? ⟨g, 1, none⟩ = false ∧ w.frozen? ⟨g, 2, none⟩ = false ∧ w.frozen? ⟨g, 3, none⟩ = false ∧ w.frozen? ⟨g, 4, none⟩ = false ∧ w.frozen? ⟨g, 5, none⟩ = false ∧ w.frozen? ⟨g, 6, none⟩ = false ∧ w.frozen? ⟨g, 7, none⟩ = false := ⟨(blk_cell h.out 0).trans rfl, (blk_cell h.out 1).trans rfl, (blk_cell h.out 2).trans rfl, (blk_cell h.out 3).trans rfl, (blk_cell h.out 4).trans rfl, (blk_cell h.out 5).trans rfl, (blk_cell h.out 6).trans rfl, (blk_cell h.out 7).trans rfl, blk_frozen h.out 0, blk_frozen h.out 1, blk_frozen h.out 2, blk_frozen h.out 3, blk_frozen h.out 4, blk_frozen h.out 5, blk_frozen h.out 6, blk_frozen h.out 7⟩
theorem ds8_ {xa xb xc xd xe xf xg xh : Value} {t : TypeId} (h : Aside0 (w.heap[g]? = some (.cells #[xa, xb, xc, xd, xe, xf, xg, xh] t (0, 0)))) : w.cell? ⟨g, 0, none⟩ = some xa ∧ w.cell? ⟨g, 1, none⟩ = some xb ∧ w.cell? ⟨g, 2, none⟩ = some xc ∧ w.cell? ⟨g, 3, none⟩ = some xd ∧ w.cell? ⟨g, 4, none⟩ = some xe ∧ w.cell? ⟨g, 5, none⟩ = some xf ∧ w.cell? ⟨g, 6, none⟩ = some xg ∧ w.cell? ⟨g, 7, none⟩ = some xh := ⟨(blk_cell h.out 0).trans rfl, (blk_cell h.out 1).trans rfl, (blk_cell h.out 2).trans rfl, (blk_cell h.out 3).trans rfl, (blk_cell h.out 4).trans rfl, (blk_cell h.out 5).trans rfl, (blk_cell h.out 6).trans rfl, (blk_cell h.out 7).trans rfl⟩
theorem cs9_ {xa xb xc xd xe xf xg xh xi : Value} {t : TypeId} (h : Aside0 (w.heap[g]? = some (.cells #[xa, xb, xc, xd, xe, xf, xg, xh, xi] t (0, 0)))) : w.cell? ⟨g, 0, none⟩ = some xa ∧ w.cell? ⟨g, 1, none⟩ = some xb ∧ w.cell? ⟨g, 2, none⟩ = some xc ∧ w.cell? ⟨g, 3, none⟩ = some xd ∧ w.cell? ⟨g, 4, none⟩ = some xe ∧ w.cell? ⟨g, 5, none⟩ = some xf ∧ w.cell? ⟨g, 6, none⟩ = some xg ∧ w.cell? ⟨g, 7, none⟩ = some xh ∧ w.cell? ⟨g, 8, none⟩ = some xi ∧ w.frozen? ⟨g, 0, none⟩ = false ∧ w.frozen? ⟨g, 1, none⟩ = false ∧ w.frozen? ⟨g, 2, none⟩ = false ∧ w.frozen? ⟨g, 3, none⟩ = false ∧ w.frozen? ⟨g, 4, none⟩ = false ∧ w.frozen? ⟨g, 5, none⟩ = false ∧ w.frozen? ⟨g, 6, none⟩ = false ∧ w.frozen? ⟨g, 7, none⟩ = false ∧ w.frozen? ⟨g, 8, none⟩ = false := ⟨(blk_cell h.out 0).trans rfl, (blk_cell h.out 1).trans rfl, (blk_cell h.out 2).trans rfl, (blk_cell h.out 3).trans rfl, (blk_cell h.out 4).trans rfl, (blk_cell h.out 5).trans rfl, (blk_cell h.out 6).trans rfl, (blk_cell h.out 7).trans rfl, (blk_cell h.out 8).trans rfl, blk_frozen h.out 0, blk_frozen h.out 1, blk_frozen h.out 2, blk_frozen h.out 3, blk_frozen h.out 4, blk_frozen h.out 5, blk_frozen h.out 6, blk_frozen h.out 7, blk_frozen h.out 8⟩
theorem ox {v : Value} {a : Addr} {u : World} (b : Aside0 (Below u.heap.size u w)) (h : u.cell? a = some v) : w.cell? a = some v := (b.out.cell (World.block_lt_of_cell? u _ h)).trans h
theorem cz {v : Value} {cs : Array Value} {t : TypeId} (b : Aside0 (w.heap[g]? = some (.cells cs t (0, 0)))) (i : Nat) (h : cs[i]? = some v := by exact rfl) : w.cell? ⟨g, i, none⟩ = some v := (blk_cell b.out i).trans h
theorem bf {t : TypeId} {cs : Array Value} (b : Aside0 (w.heap[g]? = some (.cells cs t (0, 0)))) (f : w.heap[g]? = some (.cells cs t (0, 0)) → w'.heap[g]? = some (.cells cs t (0, 0)) := by intro h; repeat (first | (with_reducible exact h) | (with_reducible first | refine blk_drewN ?_ _ | refine blk_drew ?_ | refine blk_alloc ?_ _) | refine blk_far ?_ (Aside0.out (by assumption)) _ | exact h)) : w'.heap[g]? = some (.cells cs t (0, 0)) := f b.out
theorem bd (b : Aside0 (w.heap[g]? = some o)) : Aside0 (w.drew.heap[g]? = some o) := ⟨blk_drew b.out⟩
theorem tb {B : Nat} {u : World} (b : Aside0 (Below B u w)) (f : Below B u w → Below B u w' := by intro h; repeat (first | (with_reducible first | exact h | apply below_alloc | apply pw_below_drewN | apply below_drew1 | refine below_set ?_ (Aside0.out (by assumption))) | exact h)) : Below B u w' := f b.out
theorem bs {u : World} (b : Aside0 (Below u.heap.size u w)) (hb : Below w'.heap.size w' w2) (f : Below u.heap.size u w → Below u.heap.size u w' := by intro h; repeat (first | (with_reducible first | exact h | apply below_alloc | apply pw_below_drewN | apply below_drew1 | refine below_set ?_ (Aside0.out (by assumption))) | exact h)) : Aside0 (Below u.heap.size u w2) := ⟨below_step (f b.out) hb⟩
theorem ge_ {u : World} (hg : g = w'.heap.size) (b : Aside0 (Below u.heap.size u w)) (f : Below u.heap.size u w → Below u.heap.size u w' := by intro h; repeat (first | (with_reducible first | exact h | apply below_alloc | apply pw_below_drewN | apply below_drew1 | refine below_set ?_ (Aside0.out (by assumption))) | exact h)) : u.heap.size ≤ g := by rw [hg]; exact below_size (f b.out)
theorem kr {α : Type} {d : Kd α} {e base : Nat} {ok : Nat → Prop} {v : Value} {xs : List α} (b : d.R e w base ok v xs) (f : d.R e w base ok v xs → d.R e w' base ok v xs := by intro h; (with_reducible repeat (first | apply Kd.R_alloc | apply Kd.R_drewN | apply Kd.R_drew)); exact h) : d.R e w' base ok v xs := f b
theorem rb {α : Type} {d : Kd α} {e base : Nat} {ok : Nat → Prop} {v : Value} {xs : List α} (b : Aside0 (d.R e w base ok v xs)) (hb : Below w'.heap.size w' w2) (f : d.R e w base ok v xs → d.R e w' base ok v xs := by intro h; (with_reducible repeat (first | apply Kd.R_alloc | apply Kd.R_drewN | apply Kd.R_drew)); exact h) : Aside0 (d.R e w2 base ok v xs) := ⟨Kd.R_below (f b.out) hb⟩
theorem rd_ {α : Type} {d : Kd α} {e base : Nat} {ok : Nat → Prop} {v : Value} {xs : List α} (b : Aside0 (d.R e w base ok v xs)) : Aside0 (d.R e w.drew base ok v xs) := ⟨Kd.R_drew b.out⟩
theorem kc {α : Type} {d : Kd α} {A : Option Addr} {n : Nat} {xs : List α} (r : Aside0 (d.C w A n xs)) (b : Aside0 (Below w.heap.size w w1)) (f : d.C w1 A n xs → d.C w' A n xs := by intro h; repeat (first | exact h | (with_reducible refine Kd.C_alloc ?_ _) | (with_reducible refine Kd.C_drewN ?_ _) | (with_reducible refine Kd.C_drew ?_))) : d.C w' A n xs := f (Kd.C_below r.out b.out)
end
section
variable {P : Program} {ops : Array Oper} {rest : List Oper} {o : Oper} {a : Act} {Q : Exit → Act → World → Prop} {W : World} {N : Tmp} {cs : Array Value} {t : TypeId}
theorem bx (h : ∀ g, g = W.heap.size → ∀ w1, w1.heap[g]? = some (.cells cs t (0, 0)) → Below W.heap.size W w1 → wpList P ops Q rest (a.put o.dst (.pointer (some ⟨g, 0, none⟩))) w1) (hd : o.dst = some N := by rfl) (hgd : o.guard = none := by rfl)
    (hrun : (execOp a.eval o).run P W = .ok (.value (.pointer (some ⟨W.heap.size, 0, none⟩))) (W.alloc (.cells cs t (0, 0))) := by first | (go_simp; done) | (go_simp; rfl)) : wpList P ops Q (o :: rest) a W := box_event hgd hd hrun h
theorem gL {oi : Oper} {w : World} (N : Tmp) {f : FuncId} {fn : Func} (hf : P.funcs[f]? = some fn) {ags : Array Operand} {ts : Array TypeId} (args : Array Value)
    (h : Calls P f args w fun e w' => ∃ v, e = .returned v ∧ wpList P ops Q rest (a.put (some N) v) w')
    (hd : oi.dst = some N := by rfl) (hg : oi.guard = none := by rfl) (hname : (fn.name == "runtime.NumGoroutine") = false := by kernel_rfl) (hb : fn.body.isSome = true := by rfl)
    (hop : oi.op = .call { callee := .value (.func f), args := ags, argTypes := ts } := by rfl)
    (hargs : ags.map a.eval = args := by (try simp only [List.map_toArray, List.map_cons, List.map_nil]); first | done | rfl | (simp only [List.length_drop, List.length_take]; rfl)) : wpList P ops Q (oi :: rest) a w := goesL_ (some N) hd hg hf hname hb args hop hargs h
theorem gS {oi : Oper} {w : World} {K : Act → World → Prop} {f : FuncId} {fn : Func} (hf : P.funcs[f]? = some fn) {ags : Array Operand} {ts : Array TypeId} (args : Array Value) {N : Option Tmp}
    (h : Calls P f args w fun e w' => ∃ v, e = .returned v ∧ K (a.put N v) w')
    (hN : oi.dst = N := by rfl) (hname : (fn.name == "runtime.NumGoroutine") = false := by kernel_rfl) (hb : fn.body.isSome = true := by rfl)
    (hw : Region.wanted oi (yielded ops a.tmps) = true := by rfl) (hop : oi.op = .call { callee := .value (.func f), args := ags, argTypes := ts } := by rfl)
    (hargs : ags.map a.eval = args := by (try simp only [List.map_toArray, List.map_cons, List.map_nil]); first | done | rfl | (simp only [List.length_drop, List.length_take]; rfl)) : if Region.wanted oi (yielded ops a.tmps) = true then Oper.wp P oi a w K Q else K (a.put N undef) w := goes_ hf hname hb args hw hN hop hargs h
end
section
variable {P : Program} {ops : Array Oper} {Q : Exit → Act → World → Prop} {md : Region.Mode} {S : World → Prop} {ds : List Nat} {oi : Oper} {fuel : Nat} {l l' : Array Bool} {a a' : Act} {w : World} {v : Value}
theorem pu (i : Nat) (N : Tmp) (h : wpAnyLast P md ops Q S ds fuel l' a' w)
    (hi : ops[i]? = some oi := by exact rfl) (hN : oi.dst = some N := by exact rfl) (_hl : l.setIfInBounds i true = l' := by simp only [sA, sB, sC]; rfl)
    (hc : anyB md ops l l' i = true := by first | exact any_of HT_.out (by kernel_rfl) | kernel_rfl)
    (hQ : ∀ c a w, Q (.panic c) (a.put oi.dst v) w → Q (.panic c) a w := by exact fun _ _ _ h => h)
    (hy : Yields P ops oi v a := by exact Or.inl ⟨by rfl, by intro w'; go_simp; with_reducible rfl⟩)
    (ha : a.put (some N) v = a' := by simp only [Act.put, sA, sB, sC, i64_w, i32_w]; rfl) : wpAnyLast P md ops Q S ds (fuel + 1) l a w := pure_ l' hi hN hc hQ hy ha h
theorem pn (i : Nat) (N : Tmp) (h : wpAnyLast P md ops Q S ds fuel l' a' w)
    (hi : ops[i]? = some oi := by exact rfl) (hN : oi.dst = some N := by exact rfl) (_hl : l.setIfInBounds i true = l' := by simp only [sA, sB, sC]; rfl)
    (hc : anyB md ops l l' i = true := by first | exact any_of HT_.out (by kernel_rfl) | kernel_rfl)
    (hQ : ∀ c a w, Q (.panic c) (a.put oi.dst undef) w → Q (.panic c) a w := by exact fun _ _ _ h => h)
    (hy : Yields P ops oi undef a := by exact Or.inr ⟨by rfl, rfl⟩)
    (ha : a.put (some N) undef = a' := by simp only [Act.put, sA, sB, sC, i64_w, i32_w]; rfl) : wpAnyLast P md ops Q S ds (fuel + 1) l a w := pure_ l' hi hN hc hQ hy ha h
theorem ta (i : Nat) (N : Tmp) (h : wpAnyLast P md ops Q S ds fuel l' a' w)
    (hi : ops[i]? = some oi := by exact rfl) (hN : oi.dst = some N := by exact rfl) (_hl : l.setIfInBounds i true = l' := by simp only [sA, sB, sC]; rfl)
    (hc : takeB md ops ds l l' i = true := by first | exact take_ofW HT_.out HW_.out (by kernel_rfl) | kernel_rfl)
    (hQ : ∀ c a w, Q (.panic c) (a.put oi.dst v) w → Q (.panic c) a w := by exact fun _ _ _ h => h)
    (hy : YieldsIf P ops S oi v a := by exact Or.inl ⟨by rfl, by intro w' hs; (repeat (obtain ⟨_, hs⟩ := hs)); go_simp; with_reducible rfl⟩)
    (hS : S w := by exact hHeld)
    (ha : a.put (some N) v = a' := by simp only [Act.put, sA, sB, sC, i64_w, i32_w]; rfl) : wpAnyLast P md ops Q S ds (fuel + 1) l a w := take_ l' hi hN hc hQ hy hS ha h
theorem nm (N : Tmp) (h : wpAnyLast P md ops Q S ds fuel l a' w) (ha : a.put (some N) v = a' := by simp only [Act.put, sA, sB, sC, i64_w, i32_w]; rfl) : wpAnyLast P md ops Q S ds fuel l (a.put (some N) v) w := norm_ ha h
theorem gd {rest : List Oper} {o : Oper} (N : Tmp) (_hN : o.dst = some N) (h : wpList P ops Q (o :: rest) a w) : wpList P ops Q (o :: rest) a w := h
end
end Go.Proofs.YtopikhjcbcpiaaaGreat.Q
end
section
namespace Go.Proofs.YtopikhjcbcpiaaaGreat.Q
open Go.RowKit Go.Proofs.YtopikhjcbcpiaaaGreatW.PrintWords Go.Proofs.YtopikhjcbcpiaaaGreatW.PrintLast Go.Proofs.YtopikhjcbcpiaaaGreatW.PrintMore
theorem ipt {α : Type} {a b c : α} (h : (if true = true then a else b) = c) : a = c := by rwa [if_pos rfl] at h
theorem ipf {α : Type} {a b c : α} (h : (if false = true then a else b) = c) : b = c := by rwa [if_neg (by decide)] at h
theorem bn {α β : Type} {x : Option α} {f : α → Option β} {r : β} (h : x.bind f = some r) : ∃ a, Aside0 (x = some a) ∧ f a = some r := by
  obtain ⟨a, h1, h2⟩ := Option.bind_eq_some_iff.mp h
  exact ⟨a, ⟨h1⟩, h2⟩
theorem oin {α : Type} {a b : α} (h : some a = some b) : a = b := Option.some.inj h
theorem rsd {p : Prop} (h : p := by first | rfl | (simp; done) | (simp [*]; done)) : p := h
section
variable {P : Program} {ops : Array Oper} {rest : List Oper} {o : Oper} {a : Act} {Q : Exit → Act → World → Prop} {W : World}
theorem gq (N : Tmp) (_hN : o.dst = some N) (h : wpList P ops Q (o :: rest) a W) : wpList P ops Q (o :: rest) a W := h
theorem gf (f : FuncId) {az : Array Operand} {ts : Array TypeId} (_ho : o.op = .call { callee := .value (.func f), args := az, argTypes := ts }) (h : wpList P ops Q (o :: rest) a W) : wpList P ops Q (o :: rest) a W := h
end
section
variable {P : Program} {ops : Array Oper} {Q : Exit → Act → World → Prop}
theorem on1 {md : Region.Mode} {S : World → Prop} {ds : List Nat} {oi : Oper} {fuel : Nat} {l l' : Array Bool} {a : Act} {w : World} (i : Nat) (N : Option Tmp) (h : ∀ K : Act → World → Prop, Shut (∀ a' w', S w' → (S w' → wpAnyLast P md ops Q S ds fuel l' a' w') → K a' w') → if Region.wanted oi (yielded ops a.tmps) = true then Oper.wp P oi a w K Q else K (a.put N undef) w)
    (hi : ops[i]? = some oi := by exact rfl) (hN : oi.dst = N := by exact rfl) (_hl : l.setIfInBounds i true = l' := by simp only [sA, sB, sC]; rfl) (hc : readyB md ops l l' i = true := by exact one_of HT_.out (by kernel_rfl)) (hd : i ∉ ds := by decide) : wpAnyLast P md ops Q S ds (fuel + 1) l a w := one_ l' hi hN hc hd h
end
theorem itd {c : Prop} [Decidable c] {α : Type} {a : Option α} {r : α} (h : (if c then a else none) = some r) : decide c = true ∧ a = some r := by by_cases p : c <;> simp_all
theorem itb {c : Prop} [Decidable c] {α : Type} {a : Option α} {r : α} (h : (if c then a else none) = some r) : c = True ∧ decide c = true ∧ a = some r := by by_cases p : c <;> simp_all
theorem icd {c : Prop} [Decidable c] {α : Type} {a b r : α} {G : Prop} (f : decide c = true → a = r → G) (g : decide c = false → b = r → G) (h : (if c then a else b) = r) : G := by
  by_cases p : c
  · rw [if_pos p] at h; exact f (decide_eq_true p) h
  · rw [if_neg p] at h; exact g (decide_eq_false p) h
section
variable {w w' w2 : World} {g : Nat} {t : TypeId} {cs : Array Value}
theorem bbf (b : Aside0 (w.heap[g]? = some (.cells cs t (0, 0)))) (hb : Below w'.heap.size w' w2) (f : w.heap[g]? = some (.cells cs t (0, 0)) → w'.heap[g]? = some (.cells cs t (0, 0)) := by intro h; exact bf ⟨h⟩) : Aside0 (w2.heap[g]? = some (.cells cs t (0, 0))) := ⟨blk_below (f b.out) hb⟩
theorem put2_ {xa xb ya yb : Value} (h : w.heap[g]? = some (.cells #[xa, xb] t (0, 0))) : ((w.setCell ⟨g, 0, none⟩ ya).setCell ⟨g, 1, none⟩ yb).heap[g]? = some (.cells #[ya, yb] t (0, 0)) := (blk_put (cs := #[ya, xb]) (blk_put (cs := #[xa, xb]) (h) 0 _ rfl) 1 _ rfl)
theorem put3_ {xa xb xc ya yb yc : Value} (h : w.heap[g]? = some (.cells #[xa, xb, xc] t (0, 0))) : (((w.setCell ⟨g, 0, none⟩ ya).setCell ⟨g, 1, none⟩ yb).setCell ⟨g, 2, none⟩ yc).heap[g]? = some (.cells #[ya, yb, yc] t (0, 0)) := (blk_put (cs := #[ya, yb, xc]) (blk_put (cs := #[ya, xb, xc]) (blk_put (cs := #[xa, xb, xc]) (h) 0 _ rfl) 1 _ rfl) 2 _ rfl)
theorem bbp3 {xa xb xc ya yb yc : Value} (b : Aside0 (w.heap[g]? = some (.cells #[xa, xb, xc] t (0, 0)))) (hb : Below w'.heap.size w' w2) (f : w.heap[g]? = some (.cells #[xa, xb, xc] t (0, 0)) → w'.heap[g]? = some (.cells #[ya, yb, yc] t (0, 0)) := by intro h; (with_reducible repeat (first | refine blk_drewN ?_ _ | refine blk_drew ?_ | refine blk_alloc ?_ _)); apply put3_; (with_reducible repeat (first | refine blk_drewN ?_ _ | refine blk_drew ?_ | refine blk_alloc ?_ _)); exact h) : Aside0 (w2.heap[g]? = some (.cells #[ya, yb, yc] t (0, 0))) := ⟨blk_below (f b.out) hb⟩
theorem put4_ {xa xb xc xd ya yb yc yd : Value} (h : w.heap[g]? = some (.cells #[xa, xb, xc, xd] t (0, 0))) : ((((w.setCell ⟨g, 0, none⟩ ya).setCell ⟨g, 1, none⟩ yb).setCell ⟨g, 2, none⟩ yc).setCell ⟨g, 3, none⟩ yd).heap[g]? = some (.cells #[ya, yb, yc, yd] t (0, 0)) := (blk_put (cs := #[ya, yb, yc, xd]) (blk_put (cs := #[ya, yb, xc, xd]) (blk_put (cs := #[ya, xb, xc, xd]) (blk_put (cs := #[xa, xb, xc, xd]) (h) 0 _ rfl) 1 _ rfl) 2 _ rfl) 3 _ rfl)
theorem put5_ {xa xb xc xd xe ya yb yc yd ye : Value} (h : w.heap[g]? = some (.cells #[xa, xb, xc, xd, xe] t (0, 0))) : (((((w.setCell ⟨g, 0, none⟩ ya).setCell ⟨g, 1, none⟩ yb).setCell ⟨g, 2, none⟩ yc).setCell ⟨g, 3, none⟩ yd).setCell ⟨g, 4, none⟩ ye).heap[g]? = some (.cells #[ya, yb, yc, yd, ye] t (0, 0)) := (blk_put (cs := #[ya, yb, yc, yd, xe]) (blk_put (cs := #[ya, yb, yc, xd, xe]) (blk_put (cs := #[ya, yb, xc, xd, xe]) (blk_put (cs := #[ya, xb, xc, xd, xe]) (blk_put (cs := #[xa, xb, xc, xd, xe]) (h) 0 _ rfl) 1 _ rfl) 2 _ rfl) 3 _ rfl) 4 _ rfl)
theorem bbp5 {xa xb xc xd xe ya yb yc yd ye : Value} (b : Aside0 (w.heap[g]? = some (.cells #[xa, xb, xc, xd, xe] t (0, 0)))) (hb : Below w'.heap.size w' w2) (f : w.heap[g]? = some (.cells #[xa, xb, xc, xd, xe] t (0, 0)) → w'.heap[g]? = some (.cells #[ya, yb, yc, yd, ye] t (0, 0)) := by intro h; (with_reducible repeat (first | refine blk_drewN ?_ _ | refine blk_drew ?_ | refine blk_alloc ?_ _)); apply put5_; (with_reducible repeat (first | refine blk_drewN ?_ _ | refine blk_drew ?_ | refine blk_alloc ?_ _)); exact h) : Aside0 (w2.heap[g]? = some (.cells #[ya, yb, yc, yd, ye] t (0, 0))) := ⟨blk_below (f b.out) hb⟩
theorem put8_ {xa xb xc xd xe xf xg xh ya yb yc yd ye yf yg yh : Value} (h : w.heap[g]? = some (.cells #[xa, xb, xc, xd, xe, xf, xg, xh] t (0, 0))) : ((((((((w.setCell ⟨g, 0, none⟩ ya).setCell ⟨g, 1, none⟩ yb).setCell ⟨g, 2, none⟩ yc).setCell ⟨g, 3, none⟩ yd).setCell ⟨g, 4, none⟩ ye).setCell ⟨g, 5, none⟩ yf).setCell ⟨g, 6, none⟩ yg).setCell ⟨g, 7, none⟩ yh).heap[g]? = some (.cells #[ya, yb, yc, yd, ye, yf, yg, yh] t (0, 0)) := (blk_put (cs := #[ya, yb, yc, yd, ye, yf, yg, xh]) (blk_put (cs := #[ya, yb, yc, yd, ye, yf, xg, xh]) (blk_put (cs := #[ya, yb, yc, yd, ye, xf, xg, xh]) (blk_put (cs := #[ya, yb, yc, yd, xe, xf, xg, xh]) (blk_put (cs := #[ya, yb, yc, xd, xe, xf, xg, xh]) (blk_put (cs := #[ya, yb, xc, xd, xe, xf, xg, xh]) (blk_put (cs := #[ya, xb, xc, xd, xe, xf, xg, xh]) (blk_put (cs := #[xa, xb, xc, xd, xe, xf, xg, xh]) (h) 0 _ rfl) 1 _ rfl) 2 _ rfl) 3 _ rfl) 4 _ rfl) 5 _ rfl) 6 _ rfl) 7 _ rfl)
theorem bbp8 {xa xb xc xd xe xf xg xh ya yb yc yd ye yf yg yh : Value} (b : Aside0 (w.heap[g]? = some (.cells #[xa, xb, xc, xd, xe, xf, xg, xh] t (0, 0)))) (hb : Below w'.heap.size w' w2) (f : w.heap[g]? = some (.cells #[xa, xb, xc, xd, xe, xf, xg, xh] t (0, 0)) → w'.heap[g]? = some (.cells #[ya, yb, yc, yd, ye, yf, yg, yh] t (0, 0)) := by intro h; (with_reducible repeat (first | refine blk_drewN ?_ _ | refine blk_drew ?_ | refine blk_alloc ?_ _)); apply put8_; (with_reducible repeat (first | refine blk_drewN ?_ _ | refine blk_drew ?_ | refine blk_alloc ?_ _)); exact h) : Aside0 (w2.heap[g]? = some (.cells #[ya, yb, yc, yd, ye, yf, yg, yh] t (0, 0))) := ⟨blk_below (f b.out) hb⟩
theorem put9_ {xa xb xc xd xe xf xg xh xi ya yb yc yd ye yf yg yh yi : Value} (h : w.heap[g]? = some (.cells #[xa, xb, xc, xd, xe, xf, xg, xh, xi] t (0, 0))) : (((((((((w.setCell ⟨g, 0, none⟩ ya).setCell ⟨g, 1, none⟩ yb).setCell ⟨g, 2, none⟩ yc).setCell ⟨g, 3, none⟩ yd).setCell ⟨g, 4, none⟩ ye).setCell ⟨g, 5, none⟩ yf).setCell ⟨g, 6, none⟩ yg).setCell ⟨g, 7, none⟩ yh).setCell ⟨g, 8, none⟩ yi).heap[g]? = some (.cells #[ya, yb, yc, yd, ye, yf, yg, yh, yi] t (0, 0)) := (blk_put (cs := #[ya, yb, yc, yd, ye, yf, yg, yh, xi]) (blk_put (cs := #[ya, yb, yc, yd, ye, yf, yg, xh, xi]) (blk_put (cs := #[ya, yb, yc, yd, ye, yf, xg, xh, xi]) (blk_put (cs := #[ya, yb, yc, yd, ye, xf, xg, xh, xi]) (blk_put (cs := #[ya, yb, yc, yd, xe, xf, xg, xh, xi]) (blk_put (cs := #[ya, yb, yc, xd, xe, xf, xg, xh, xi]) (blk_put (cs := #[ya, yb, xc, xd, xe, xf, xg, xh, xi]) (blk_put (cs := #[ya, xb, xc, xd, xe, xf, xg, xh, xi]) (blk_put (cs := #[xa, xb, xc, xd, xe, xf, xg, xh, xi]) (h) 0 _ rfl) 1 _ rfl) 2 _ rfl) 3 _ rfl) 4 _ rfl) 5 _ rfl) 6 _ rfl) 7 _ rfl) 8 _ rfl)
theorem bbp9 {xa xb xc xd xe xf xg xh xi ya yb yc yd ye yf yg yh yi : Value} (b : Aside0 (w.heap[g]? = some (.cells #[xa, xb, xc, xd, xe, xf, xg, xh, xi] t (0, 0)))) (hb : Below w'.heap.size w' w2) (f : w.heap[g]? = some (.cells #[xa, xb, xc, xd, xe, xf, xg, xh, xi] t (0, 0)) → w'.heap[g]? = some (.cells #[ya, yb, yc, yd, ye, yf, yg, yh, yi] t (0, 0)) := by intro h; (with_reducible repeat (first | refine blk_drewN ?_ _ | refine blk_drew ?_ | refine blk_alloc ?_ _)); apply put9_; (with_reducible repeat (first | refine blk_drewN ?_ _ | refine blk_drew ?_ | refine blk_alloc ?_ _)); exact h) : Aside0 (w2.heap[g]? = some (.cells #[ya, yb, yc, yd, ye, yf, yg, yh, yi] t (0, 0))) := ⟨blk_below (f b.out) hb⟩
theorem bfp2 {xa xb ya yb : Value} (b : Aside0 (w.heap[g]? = some (.cells #[xa, xb] t (0, 0)))) (f : w.heap[g]? = some (.cells #[xa, xb] t (0, 0)) → w'.heap[g]? = some (.cells #[ya, yb] t (0, 0)) := by intro h; (repeat (first | (with_reducible first | exact h | refine blk_drewN ?_ _ | refine blk_drew ?_ | refine blk_alloc ?_ _) | refine blk_far ?_ (Aside0.out (by assumption)) _)); apply put2_; (repeat (first | (with_reducible first | exact h | refine blk_drewN ?_ _ | refine blk_drew ?_ | refine blk_alloc ?_ _) | refine blk_far ?_ (Aside0.out (by assumption)) _)); done) : w'.heap[g]? = some (.cells #[ya, yb] t (0, 0)) := f b.out
theorem bfp3 {xa xb xc ya yb yc : Value} (b : Aside0 (w.heap[g]? = some (.cells #[xa, xb, xc] t (0, 0)))) (f : w.heap[g]? = some (.cells #[xa, xb, xc] t (0, 0)) → w'.heap[g]? = some (.cells #[ya, yb, yc] t (0, 0)) := by intro h; (repeat (first | (with_reducible first | exact h | refine blk_drewN ?_ _ | refine blk_drew ?_ | refine blk_alloc ?_ _) | refine blk_far ?_ (Aside0.out (by assumption)) _)); apply put3_; (repeat (first | (with_reducible first | exact h | refine blk_drewN ?_ _ | refine blk_drew ?_ | refine blk_alloc ?_ _) | refine blk_far ?_ (Aside0.out (by assumption)) _)); done) : w'.heap[g]? = some (.cells #[ya, yb, yc] t (0, 0)) := f b.out
theorem bfp4 {xa xb xc xd ya yb yc yd : Value} (b : Aside0 (w.heap[g]? = some (.cells #[xa, xb, xc, xd] t (0, 0)))) (f : w.heap[g]? = some (.cells #[xa, xb, xc, xd] t (0, 0)) → w'.heap[g]? = some (.cells #[ya, yb, yc, yd] t (0, 0)) := by intro h; (repeat (first | (with_reducible first | exact h | refine blk_drewN ?_ _ | refine blk_drew ?_ | refine blk_alloc ?_ _) | refine blk_far ?_ (Aside0.out (by assumption)) _)); apply put4_; (repeat (first | (with_reducible first | exact h | refine blk_drewN ?_ _ | refine blk_drew ?_ | refine blk_alloc ?_ _) | refine blk_far ?_ (Aside0.out (by assumption)) _)); done) : w'.heap[g]? = some (.cells #[ya, yb, yc, yd] t (0, 0)) := f b.out
theorem bfp5 {xa xb xc xd xe ya yb yc yd ye : Value} (b : Aside0 (w.heap[g]? = some (.cells #[xa, xb, xc, xd, xe] t (0, 0)))) (f : w.heap[g]? = some (.cells #[xa, xb, xc, xd, xe] t (0, 0)) → w'.heap[g]? = some (.cells #[ya, yb, yc, yd, ye] t (0, 0)) := by intro h; (repeat (first | (with_reducible first | exact h | refine blk_drewN ?_ _ | refine blk_drew ?_ | refine blk_alloc ?_ _) | refine blk_far ?_ (Aside0.out (by assumption)) _)); apply put5_; (repeat (first | (with_reducible first | exact h | refine blk_drewN ?_ _ | refine blk_drew ?_ | refine blk_alloc ?_ _) | refine blk_far ?_ (Aside0.out (by assumption)) _)); done) : w'.heap[g]? = some (.cells #[ya, yb, yc, yd, ye] t (0, 0)) := f b.out
theorem bfp8 {xa xb xc xd xe xf xg xh ya yb yc yd ye yf yg yh : Value} (b : Aside0 (w.heap[g]? = some (.cells #[xa, xb, xc, xd, xe, xf, xg, xh] t (0, 0)))) (f : w.heap[g]? = some (.cells #[xa, xb, xc, xd, xe, xf, xg, xh] t (0, 0)) → w'.heap[g]? = some (.cells #[ya, yb, yc, yd, ye, yf, yg, yh] t (0, 0)) := by intro h; (repeat (first | (with_reducible first | exact h | refine blk_drewN ?_ _ | refine blk_drew ?_ | refine blk_alloc ?_ _) | refine blk_far ?_ (Aside0.out (by assumption)) _)); apply put8_; (repeat (first | (with_reducible first | exact h | refine blk_drewN ?_ _ | refine blk_drew ?_ | refine blk_alloc ?_ _) | refine blk_far ?_ (Aside0.out (by assumption)) _)); done) : w'.heap[g]? = some (.cells #[ya, yb, yc, yd, ye, yf, yg, yh] t (0, 0)) := f b.out
theorem bfp9 {xa xb xc xd xe xf xg xh xi ya yb yc yd ye yf yg yh yi : Value} (b : Aside0 (w.heap[g]? = some (.cells #[xa, xb, xc, xd, xe, xf, xg, xh, xi] t (0, 0)))) (f : w.heap[g]? = some (.cells #[xa, xb, xc, xd, xe, xf, xg, xh, xi] t (0, 0)) → w'.heap[g]? = some (.cells #[ya, yb, yc, yd, ye, yf, yg, yh, yi] t (0, 0)) := by intro h; (repeat (first | (with_reducible first | exact h | refine blk_drewN ?_ _ | refine blk_drew ?_ | refine blk_alloc ?_ _) | refine blk_far ?_ (Aside0.out (by assumption)) _)); apply put9_; (repeat (first | (with_reducible first | exact h | refine blk_drewN ?_ _ | refine blk_drew ?_ | refine blk_alloc ?_ _) | refine blk_far ?_ (Aside0.out (by assumption)) _)); done) : w'.heap[g]? = some (.cells #[ya, yb, yc, yd, ye, yf, yg, yh, yi] t (0, 0)) := f b.out
theorem ox2 {pa pb : Addr} {xa xb : Value} {u : World} (b : Aside0 (Below u.heap.size u w)) (h : u.cell? pa = some xa ∧ u.cell? pb = some xb) : w.cell? pa = some xa ∧ w.cell? pb = some xb := ⟨ox b h.1, ox b h.2⟩
theorem ox3 {pa pb pc : Addr} {xa xb xc : Value} {u : World} (b : Aside0 (Below u.heap.size u w)) (h : u.cell? pa = some xa ∧ u.cell? pb = some xb ∧ u.cell? pc = some xc) : w.cell? pa = some xa ∧ w.cell? pb = some xb ∧ w.cell? pc = some xc := ⟨ox b h.1, ox b h.2.1, ox b h.2.2⟩
theorem ox4 {pa pb pc pd : Addr} {xa xb xc xd : Value} {u : World} (b : Aside0 (Below u.heap.size u w)) (h : u.cell? pa = some xa ∧ u.cell? pb = some xb ∧ u.cell? pc = some xc ∧ u.cell? pd = some xd) : w.cell? pa = some xa ∧ w.cell? pb = some xb ∧ w.cell? pc = some xc ∧ w.cell? pd = some xd := ⟨ox b h.1, ox b h.2.1, ox b h.2.2.1, ox b h.2.2.2⟩
theorem ox5 {pa pb pc pd pe : Addr} {xa xb xc xd xe : Value} {u : World} (b : Aside0 (Below u.heap.size u w)) (h : u.cell? pa = some xa ∧ u.cell? pb = some xb ∧ u.cell? pc = some xc ∧ u.cell? pd = some xd ∧ u.cell? pe = some xe) : w.cell? pa = some xa ∧ w.cell? pb = some xb ∧ w.cell? pc = some xc ∧ w.cell? pd = some xd ∧ w.cell? pe = some xe := ⟨ox b h.1, ox b h.2.1, ox b h.2.2.1, ox b h.2.2.2.1, ox b h.2.2.2.2⟩
theorem ox9 {pa pb pc pd pe pf pg ph pi : Addr} {xa xb xc xd xe xf xg xh xi : Value} {u : World} (b : Aside0 (Below u.heap.size u w)) (h : u.cell? pa = some xa ∧ u.cell? pb = some xb ∧ u.cell? pc = some xc ∧ u.cell? pd = some xd ∧ u.cell? pe = some xe ∧ u.cell? pf = some xf ∧ u.cell? pg = some xg ∧ u.cell? ph = some xh ∧ u.cell? pi = some xi) : w.cell? pa = some xa ∧ w.cell? pb = some xb ∧ w.cell? pc = some xc ∧ w.cell? pd = some xd ∧ w.cell? pe = some xe ∧ w.cell? pf = some xf ∧ w.cell? pg = some xg ∧ w.cell? ph = some xh ∧ w.cell? pi = some xi := ⟨ox b h.1, ox b h.2.1, ox b h.2.2.1, ox b h.2.2.2.1, ox b h.2.2.2.2.1, ox b h.2.2.2.2.2.1, ox b h.2.2.2.2.2.2.1, ox b h.2.2.2.2.2.2.2.1, ox b h.2.2.2.2.2.2.2.2⟩
abbrev cS2 (g : Nat) (xa xb : Value) (w : World) : Prop := w.cell? ⟨g, 0, none⟩ = some xa ∧ w.cell? ⟨g, 1, none⟩ = some xb
abbrev cS3 (g : Nat) (xa xb xc : Value) (w : World) : Prop := w.cell? ⟨g, 0, none⟩ = some xa ∧ w.cell? ⟨g, 1, none⟩ = some xb ∧ w.cell? ⟨g, 2, none⟩ = some xc
abbrev cS5 (g : Nat) (xa xb xc xd xe : Value) (w : World) : Prop := w.cell? ⟨g, 0, none⟩ = some xa ∧ w.cell? ⟨g, 1, none⟩ = some xb ∧ w.cell? ⟨g, 2, none⟩ = some xc ∧ w.cell? ⟨g, 3, none⟩ = some xd ∧ w.cell? ⟨g, 4, none⟩ = some xe
abbrev cS8 (g : Nat) (xa xb xc xd xe xf xg xh : Value) (w : World) : Prop := w.cell? ⟨g, 0, none⟩ = some xa ∧ w.cell? ⟨g, 1, none⟩ = some xb ∧ w.cell? ⟨g, 2, none⟩ = some xc ∧ w.cell? ⟨g, 3, none⟩ = some xd ∧ w.cell? ⟨g, 4, none⟩ = some xe ∧ w.cell? ⟨g, 5, none⟩ = some xf ∧ w.cell? ⟨g, 6, none⟩ = some xg ∧ w.cell? ⟨g, 7, none⟩ = some xh
end
section
variable {P : Program} {ops : Array Oper} {rest : List Oper} {o : Oper} {a : Act} {Q : Exit → Act → World → Prop} {u W : World} {N : Tmp} {cs : Array Value} {t : TypeId}
theorem bx0 {ub : World} (B : Aside0 (Below u.heap.size u ub)) (h : ∀ g w1, Aside0 (w1.heap[g]? = some (.cells cs t (0, 0))) → Aside0 (u.heap.size ≤ g) → Aside0 (Below u.heap.size u w1) → wpList P ops Q rest (a.put o.dst (.pointer (some ⟨g, 0, none⟩))) w1) (hd : o.dst = some N := by rfl) (hgd : o.guard = none := by rfl)
    (hrun : (execOp a.eval o).run P W = .ok (.value (.pointer (some ⟨W.heap.size, 0, none⟩))) (W.alloc (.cells cs t (0, 0))) := by first | (go_simp; done) | (go_simp; rfl)) (fb : Below u.heap.size u ub → Below u.heap.size u W := by intro h; exact tb ⟨h⟩) : wpList P ops Q (o :: rest) a W :=
  bx (fun g hg w1 hbox hb => h g w1 ⟨hbox⟩ ⟨hg ▸ (fb B.out).size⟩ ⟨below_step (fb B.out) hb⟩) hd hgd hrun
theorem bx1 {ub : World} {g0 : Nat} {o0 : Obj} {u0 : World} (B : Aside0 (Below u.heap.size u ub)) (b0 : Aside0 (u0.heap[g0]? = some o0)) (h : ∀ g w1, Aside0 (w1.heap[g]? = some (.cells cs t (0, 0))) → Aside0 (u.heap.size ≤ g) → Aside0 (Below u.heap.size u w1) → Aside0 (g0 ≠ g) → Aside0 (g ≠ g0) → Aside0 (w1.heap[g0]? = some o0) → wpList P ops Q rest (a.put o.dst (.pointer (some ⟨g, 0, none⟩))) w1) (hd : o.dst = some N := by rfl) (hgd : o.guard = none := by rfl)
    (hrun : (execOp a.eval o).run P W = .ok (.value (.pointer (some ⟨W.heap.size, 0, none⟩))) (W.alloc (.cells cs t (0, 0))) := by first | (go_simp; done) | (go_simp; rfl)) (fb : Below u.heap.size u ub → Below u.heap.size u W := by intro h; exact tb ⟨h⟩) (f0 : u0.heap[g0]? = some o0 → W.heap[g0]? = some o0 := by intro h; exact bk ⟨h⟩) : wpList P ops Q (o :: rest) a W :=
  bx (fun g hg w1 hbox hb => h g w1 ⟨hbox⟩ ⟨hg ▸ (fb B.out).size⟩ ⟨below_step (fb B.out) hb⟩ ⟨Nat.ne_of_lt (hg ▸ blk_lt (f0 b0.out))⟩ ⟨Nat.ne_of_gt (hg ▸ blk_lt (f0 b0.out))⟩ ⟨blk_below (f0 b0.out) hb⟩) hd hgd hrun
theorem bx2 {ub : World} {g0 g1 : Nat} {o0 o1 : Obj} {u0 u1 : World} (B : Aside0 (Below u.heap.size u ub)) (b0 : Aside0 (u0.heap[g0]? = some o0)) (b1 : Aside0 (u1.heap[g1]? = some o1)) (h : ∀ g w1, Aside0 (w1.heap[g]? = some (.cells cs t (0, 0))) → Aside0 (u.heap.size ≤ g) → Aside0 (Below u.heap.size u w1) → Aside0 (g0 ≠ g) → Aside0 (g ≠ g0) → Aside0 (w1.heap[g0]? = some o0) → Aside0 (g1 ≠ g) → Aside0 (g ≠ g1) → Aside0 (w1.heap[g1]? = some o1) → wpList P ops Q rest (a.put o.dst (.pointer (some ⟨g, 0, none⟩))) w1) (hd : o.dst = some N := by rfl) (hgd : o.guard = none := by rfl)
    (hrun : (execOp a.eval o).run P W = .ok (.value (.pointer (some ⟨W.heap.size, 0, none⟩))) (W.alloc (.cells cs t (0, 0))) := by first | (go_simp; done) | (go_simp; rfl)) (fb : Below u.heap.size u ub → Below u.heap.size u W := by intro h; exact tb ⟨h⟩) (f0 : u0.heap[g0]? = some o0 → W.heap[g0]? = some o0 := by intro h; exact bk ⟨h⟩) (f1 : u1.heap[g1]? = some o1 → W.heap[g1]? = some o1 := by intro h; exact bk ⟨h⟩) : wpList P ops Q (o :: rest) a W :=
  bx (fun g hg w1 hbox hb => h g w1 ⟨hbox⟩ ⟨hg ▸ (fb B.out).size⟩ ⟨below_step (fb B.out) hb⟩ ⟨Nat.ne_of_lt (hg ▸ blk_lt (f0 b0.out))⟩ ⟨Nat.ne_of_gt (hg ▸ blk_lt (f0 b0.out))⟩ ⟨blk_below (f0 b0.out) hb⟩ ⟨Nat.ne_of_lt (hg ▸ blk_lt (f1 b1.out))⟩ ⟨Nat.ne_of_gt (hg ▸ blk_lt (f1 b1.out))⟩ ⟨blk_below (f1 b1.out) hb⟩) hd hgd hrun
theorem bx3 {ub : World} {g0 g1 g2 : Nat} {o0 o1 o2 : Obj} {u0 u1 u2 : World} (B : Aside0 (Below u.heap.size u ub)) (b0 : Aside0 (u0.heap[g0]? = some o0)) (b1 : Aside0 (u1.heap[g1]? = some o1)) (b2 : Aside0 (u2.heap[g2]? = some o2)) (h : ∀ g w1, Aside0 (w1.heap[g]? = some (.cells cs t (0, 0))) → Aside0 (u.heap.size ≤ g) → Aside0 (Below u.heap.size u w1) → Aside0 (g0 ≠ g) → Aside0 (g ≠ g0) → Aside0 (w1.heap[g0]? = some o0) → Aside0 (g1 ≠ g) → Aside0 (g ≠ g1) → Aside0 (w1.heap[g1]? = some o1) → Aside0 (g2 ≠ g) → Aside0 (g ≠ g2) → Aside0 (w1.heap[g2]? = some o2) → wpList P ops Q rest (a.put o.dst (.pointer (some ⟨g, 0, none⟩))) w1) (hd : o.dst = some N := by rfl) (hgd : o.guard = none := by rfl)
    (hrun : (execOp a.eval o).run P W = .ok (.value (.pointer (some ⟨W.heap.size, 0, none⟩))) (W.alloc (.cells cs t (0, 0))) := by first | (go_simp; done) | (go_simp; rfl)) (fb : Below u.heap.size u ub → Below u.heap.size u W := by intro h; exact tb ⟨h⟩) (f0 : u0.heap[g0]? = some o0 → W.heap[g0]? = some o0 := by intro h; exact bk ⟨h⟩) (f1 : u1.heap[g1]? = some o1 → W.heap[g1]? = some o1 := by intro h; exact bk ⟨h⟩) (f2 : u2.heap[g2]? = some o2 → W.heap[g2]? = some o2 := by intro h; exact bk ⟨h⟩) : wpList P ops Q (o :: rest) a W :=
  bx (fun g hg w1 hbox hb => h g w1 ⟨hbox⟩ ⟨hg ▸ (fb B.out).size⟩ ⟨below_step (fb B.out) hb⟩ ⟨Nat.ne_of_lt (hg ▸ blk_lt (f0 b0.out))⟩ ⟨Nat.ne_of_gt (hg ▸ blk_lt (f0 b0.out))⟩ ⟨blk_below (f0 b0.out) hb⟩ ⟨Nat.ne_of_lt (hg ▸ blk_lt (f1 b1.out))⟩ ⟨Nat.ne_of_gt (hg ▸ blk_lt (f1 b1.out))⟩ ⟨blk_below (f1 b1.out) hb⟩ ⟨Nat.ne_of_lt (hg ▸ blk_lt (f2 b2.out))⟩ ⟨Nat.ne_of_gt (hg ▸ blk_lt (f2 b2.out))⟩ ⟨blk_below (f2 b2.out) hb⟩) hd hgd hrun
end
theorem att207 {w : World} {A : Option Addr} {n : Nat} {xs : List S207} (h : Kd.C k207 w A n xs) (i : Int) (h0 : 0 ≤ i) (h1 : i < n) : ∃ ad , A = some ad ∧ (w.cell? (ad.add (i.toNat * 3)) = some (.int .i64 (rd_T207 xs i).f0) ∧ w.cell? ⟨(ad.add (i.toNat * 3)).block, (ad.add (i.toNat * 3)).off + 1, none⟩ = some (.int .i64 (rd_T207 xs i).f1) ∧ w.cell? ⟨(ad.add (i.toNat * 3)).block, (ad.add (i.toNat * 3)).off + 2, none⟩ = some (.int .i64 (rd_T207 xs i).f2)) := by
  obtain ⟨ad, e, y0, y1, y2⟩ := at_T207 h i h0 h1
  exact ⟨ad, e, ⟨y0, y1, y2⟩⟩
theorem att236 {w : World} {A : Option Addr} {n : Nat} {xs : List S236} (h : Kd.C k236 w A n xs) (i : Int) (h0 : 0 ≤ i) (h1 : i < n) : ∃ ad , A = some ad ∧ (w.cell? (ad.add (i.toNat * 3)) = some (.int .i64 (rd_T236 xs i).f0) ∧ w.cell? ⟨(ad.add (i.toNat * 3)).block, (ad.add (i.toNat * 3)).off + 1, none⟩ = some (.int .i64 (rd_T236 xs i).f1) ∧ w.cell? ⟨(ad.add (i.toNat * 3)).block, (ad.add (i.toNat * 3)).off + 2, none⟩ = some (.int .i64 (rd_T236 xs i).f2)) := by
  obtain ⟨ad, e, y0, y1, y2⟩ := at_T236 h i h0 h1
  exact ⟨ad, e, ⟨y0, y1, y2⟩⟩
theorem att201 {w : World} {A : Option Addr} {n : Nat} {xs : List S201} (h : Kd.C k201 w A n xs) (i : Int) (h0 : 0 ≤ i) (h1 : i < n) : ∃ ad A2 c2 A4 c4, A = some ad ∧ (w.cell? (ad.add (i.toNat * 5)) = some (.int .i64 (rd_T201 xs i).f0) ∧ w.cell? ⟨(ad.add (i.toNat * 5)).block, (ad.add (i.toNat * 5)).off + 1, none⟩ = some (.int .i64 (rd_T201 xs i).f1) ∧ w.cell? ⟨(ad.add (i.toNat * 5)).block, (ad.add (i.toNat * 5)).off + 2, none⟩ = some (.slice A2 (rd_T201 xs i).f2.length c2) ∧ w.cell? ⟨(ad.add (i.toNat * 5)).block, (ad.add (i.toNat * 5)).off + 3, none⟩ = some (.int .i64 (rd_T201 xs i).f3.f0) ∧ w.cell? ⟨(ad.add (i.toNat * 5)).block, (ad.add (i.toNat * 5)).off + 4, none⟩ = some (.slice A4 (rd_T201 xs i).f3.f1.length c4)) ∧ (rd_T201 xs i).f2.length ≤ c2 ∧ k236.C w A2 (rd_T201 xs i).f2.length (rd_T201 xs i).f2 ∧ (rd_T201 xs i).f3.f1.length ≤ c4 ∧ (Kd.int .i64).C w A4 (rd_T201 xs i).f3.f1.length (rd_T201 xs i).f3.f1 := by
  obtain ⟨ad, A2, c2, A4, c4, e, y0, y1, y2, y3, y4, y5, y6, y7, y8⟩ := at_T201 h i h0 h1
  exact ⟨ad, A2, c2, A4, c4, e, ⟨y0, y1, y2, y3, y4⟩, y5, y6, y7, y8⟩
theorem att173 {w : World} {A : Option Addr} {n : Nat} {xs : List S173} (h : Kd.C k173 w A n xs) (i : Int) (h0 : 0 ≤ i) (h1 : i < n) : ∃ ad , A = some ad ∧ (w.cell? (ad.add (i.toNat * 3)) = some (.int .i64 (rd_T173 xs i).f0) ∧ w.cell? ⟨(ad.add (i.toNat * 3)).block, (ad.add (i.toNat * 3)).off + 1, none⟩ = some (.int .i64 (rd_T173 xs i).f1) ∧ w.cell? ⟨(ad.add (i.toNat * 3)).block, (ad.add (i.toNat * 3)).off + 2, none⟩ = some (.int .i64 (rd_T173 xs i).f2)) := by
  obtain ⟨ad, e, y0, y1, y2⟩ := at_T173 h i h0 h1
  exact ⟨ad, e, ⟨y0, y1, y2⟩⟩
theorem att224 {w : World} {A : Option Addr} {n : Nat} {xs : List S224} (h : Kd.C k224 w A n xs) (i : Int) (h0 : 0 ≤ i) (h1 : i < n) : ∃ ad , A = some ad ∧ (w.cell? (ad.add (i.toNat * 2)) = some (.int .i64 (rd_T224 xs i).f0) ∧ w.cell? ⟨(ad.add (i.toNat * 2)).block, (ad.add (i.toNat * 2)).off + 1, none⟩ = some (.int .i64 (rd_T224 xs i).f1)) := by
  obtain ⟨ad, e, y0, y1⟩ := at_T224 h i h0 h1
  exact ⟨ad, e, ⟨y0, y1⟩⟩
theorem att226 {w : World} {A : Option Addr} {n : Nat} {xs : List S226} (h : Kd.C k226 w A n xs) (i : Int) (h0 : 0 ≤ i) (h1 : i < n) : ∃ ad , A = some ad ∧ (w.cell? (ad.add (i.toNat * 4)) = some (.int .i64 (rd_T226 xs i).f0) ∧ w.cell? ⟨(ad.add (i.toNat * 4)).block, (ad.add (i.toNat * 4)).off + 1, none⟩ = some (.int .i64 (rd_T226 xs i).f1) ∧ w.cell? ⟨(ad.add (i.toNat * 4)).block, (ad.add (i.toNat * 4)).off + 2, none⟩ = some (.int .i64 (rd_T226 xs i).f2) ∧ w.cell? ⟨(ad.add (i.toNat * 4)).block, (ad.add (i.toNat * 4)).off + 3, none⟩ = some (.int .i64 (rd_T226 xs i).f3)) := by
  obtain ⟨ad, e, y0, y1, y2, y3⟩ := at_T226 h i h0 h1
  exact ⟨ad, e, ⟨y0, y1, y2, y3⟩⟩
theorem att171 {w : World} {A : Option Addr} {n : Nat} {xs : List S171} (h : Kd.C k171 w A n xs) (i : Int) (h0 : 0 ≤ i) (h1 : i < n) : ∃ ad A0 c0 A3 c3 A4 c4, A = some ad ∧ (w.cell? (ad.add (i.toNat * 5)) = some (.slice A0 (rd_T171 xs i).f0.length c0) ∧ w.cell? ⟨(ad.add (i.toNat * 5)).block, (ad.add (i.toNat * 5)).off + 1, none⟩ = some (.int .i64 (rd_T171 xs i).f1) ∧ w.cell? ⟨(ad.add (i.toNat * 5)).block, (ad.add (i.toNat * 5)).off + 2, none⟩ = some (.bool (rd_T171 xs i).f2) ∧ w.cell? ⟨(ad.add (i.toNat * 5)).block, (ad.add (i.toNat * 5)).off + 3, none⟩ = some (.slice A3 (rd_T171 xs i).f3.length c3) ∧ w.cell? ⟨(ad.add (i.toNat * 5)).block, (ad.add (i.toNat * 5)).off + 4, none⟩ = some (.slice A4 (rd_T171 xs i).f4.length c4)) ∧ (rd_T171 xs i).f0.length ≤ c0 ∧ k173.C w A0 (rd_T171 xs i).f0.length (rd_T171 xs i).f0 ∧ (rd_T171 xs i).f3.length ≤ c3 ∧ k224.C w A3 (rd_T171 xs i).f3.length (rd_T171 xs i).f3 ∧ (rd_T171 xs i).f4.length ≤ c4 ∧ k226.C w A4 (rd_T171 xs i).f4.length (rd_T171 xs i).f4 := by
  obtain ⟨ad, A0, c0, A3, c3, A4, c4, e, y0, y1, y2, y3, y4, y5, y6, y7, y8, y9, y10⟩ := at_T171 h i h0 h1
  exact ⟨ad, A0, c0, A3, c3, A4, c4, e, ⟨y0, y1, y2, y3, y4⟩, y5, y6, y7, y8, y9, y10⟩
theorem att176 {w : World} {A : Option Addr} {n : Nat} {xs : List S176} (h : Kd.C k176 w A n xs) (i : Int) (h0 : 0 ≤ i) (h1 : i < n) : ∃ ad A8 c8, A = some ad ∧ (w.cell? (ad.add (i.toNat * 9)) = some (.int .i64 (rd_T176 xs i).f0) ∧ w.cell? ⟨(ad.add (i.toNat * 9)).block, (ad.add (i.toNat * 9)).off + 1, none⟩ = some (.int .i64 (rd_T176 xs i).f1.f0) ∧ w.cell? ⟨(ad.add (i.toNat * 9)).block, (ad.add (i.toNat * 9)).off + 2, none⟩ = some (.int .i64 (rd_T176 xs i).f1.f1) ∧ w.cell? ⟨(ad.add (i.toNat * 9)).block, (ad.add (i.toNat * 9)).off + 3, none⟩ = some (.int .i64 (rd_T176 xs i).f1.f2) ∧ w.cell? ⟨(ad.add (i.toNat * 9)).block, (ad.add (i.toNat * 9)).off + 4, none⟩ = some (.int .i64 (rd_T176 xs i).f2) ∧ w.cell? ⟨(ad.add (i.toNat * 9)).block, (ad.add (i.toNat * 9)).off + 5, none⟩ = some (.int .i64 (rd_T176 xs i).f3) ∧ w.cell? ⟨(ad.add (i.toNat * 9)).block, (ad.add (i.toNat * 9)).off + 6, none⟩ = some (.int .i64 (rd_T176 xs i).f4) ∧ w.cell? ⟨(ad.add (i.toNat * 9)).block, (ad.add (i.toNat * 9)).off + 7, none⟩ = some (.int .i64 (rd_T176 xs i).f5.f0) ∧ w.cell? ⟨(ad.add (i.toNat * 9)).block, (ad.add (i.toNat * 9)).off + 8, none⟩ = some (.slice A8 (rd_T176 xs i).f5.f1.length c8)) ∧ (rd_T176 xs i).f5.f1.length ≤ c8 ∧ (Kd.int .i64).C w A8 (rd_T176 xs i).f5.f1.length (rd_T176 xs i).f5.f1 := by
  obtain ⟨ad, A8, c8, e, y0, y1, y2, y3, y4, y5, y6, y7, y8, y9, y10⟩ := at_T176 h i h0 h1
  exact ⟨ad, A8, c8, e, ⟨y0, y1, y2, y3, y4, y5, y6, y7, y8⟩, y9, y10⟩
abbrev eT132 (p : Addr) (x : S132) (w : World) : Prop := w.cell? p = some (.int .i64 x.f0) ∧ w.cell? ⟨p.block, p.off + 1, none⟩ = some (.int .i64 x.f1) ∧ w.cell? ⟨p.block, p.off + 2, none⟩ = some (.int .i64 x.f2)
theorem att132 {w : World} {A : Option Addr} {n : Nat} {xs : List S132} (h : Kd.C k132 w A n xs) (i : Int) (h0 : 0 ≤ i) (h1 : i < n) : ∃ ad , A = some ad ∧ (w.cell? (ad.add (i.toNat * 3)) = some (.int .i64 (rd_T132 xs i).f0) ∧ w.cell? ⟨(ad.add (i.toNat * 3)).block, (ad.add (i.toNat * 3)).off + 1, none⟩ = some (.int .i64 (rd_T132 xs i).f1) ∧ w.cell? ⟨(ad.add (i.toNat * 3)).block, (ad.add (i.toNat * 3)).off + 2, none⟩ = some (.int .i64 (rd_T132 xs i).f2)) := by
  obtain ⟨ad, e, y0, y1, y2⟩ := at_T132 h i h0 h1
  exact ⟨ad, e, ⟨y0, y1, y2⟩⟩
abbrev eT145 (p : Addr) (x : S145) (w : World) : Prop := w.cell? p = some (.int .i64 x.f0) ∧ w.cell? ⟨p.block, p.off + 1, none⟩ = some (.int .i64 x.f1)
theorem att145 {w : World} {A : Option Addr} {n : Nat} {xs : List S145} (h : Kd.C k145 w A n xs) (i : Int) (h0 : 0 ≤ i) (h1 : i < n) : ∃ ad , A = some ad ∧ (w.cell? (ad.add (i.toNat * 2)) = some (.int .i64 (rd_T145 xs i).f0) ∧ w.cell? ⟨(ad.add (i.toNat * 2)).block, (ad.add (i.toNat * 2)).off + 1, none⟩ = some (.int .i64 (rd_T145 xs i).f1)) := by
  obtain ⟨ad, e, y0, y1⟩ := at_T145 h i h0 h1
  exact ⟨ad, e, ⟨y0, y1⟩⟩
abbrev eT42 (p : Addr) (x : S42) (w : World) : Prop := w.cell? p = some (.int .i64 x.f0) ∧ w.cell? ⟨p.block, p.off + 1, none⟩ = some (.int .i64 x.f1) ∧ w.cell? ⟨p.block, p.off + 2, none⟩ = some (.int .i64 x.f2) ∧ w.cell? ⟨p.block, p.off + 3, none⟩ = some (.int .i64 x.f3)
theorem att42 {w : World} {A : Option Addr} {n : Nat} {xs : List S42} (h : Kd.C k42 w A n xs) (i : Int) (h0 : 0 ≤ i) (h1 : i < n) : ∃ ad , A = some ad ∧ (w.cell? (ad.add (i.toNat * 4)) = some (.int .i64 (rd_T42 xs i).f0) ∧ w.cell? ⟨(ad.add (i.toNat * 4)).block, (ad.add (i.toNat * 4)).off + 1, none⟩ = some (.int .i64 (rd_T42 xs i).f1) ∧ w.cell? ⟨(ad.add (i.toNat * 4)).block, (ad.add (i.toNat * 4)).off + 2, none⟩ = some (.int .i64 (rd_T42 xs i).f2) ∧ w.cell? ⟨(ad.add (i.toNat * 4)).block, (ad.add (i.toNat * 4)).off + 3, none⟩ = some (.int .i64 (rd_T42 xs i).f3)) := by
  obtain ⟨ad, e, y0, y1, y2, y3⟩ := at_T42 h i h0 h1
  exact ⟨ad, e, ⟨y0, y1, y2, y3⟩⟩
abbrev eT37 (p : Addr) (x : S37) (w : World) : Prop := w.cell? p = some (.int .i64 x.f0) ∧ w.cell? ⟨p.block, p.off + 1, none⟩ = some (.int .i64 x.f1) ∧ w.cell? ⟨p.block, p.off + 2, none⟩ = some (.int .i64 x.f2)
theorem att37 {w : World} {A : Option Addr} {n : Nat} {xs : List S37} (h : Kd.C k37 w A n xs) (i : Int) (h0 : 0 ≤ i) (h1 : i < n) : ∃ ad , A = some ad ∧ (w.cell? (ad.add (i.toNat * 3)) = some (.int .i64 (rd_T37 xs i).f0) ∧ w.cell? ⟨(ad.add (i.toNat * 3)).block, (ad.add (i.toNat * 3)).off + 1, none⟩ = some (.int .i64 (rd_T37 xs i).f1) ∧ w.cell? ⟨(ad.add (i.toNat * 3)).block, (ad.add (i.toNat * 3)).off + 2, none⟩ = some (.int .i64 (rd_T37 xs i).f2)) := by
  obtain ⟨ad, e, y0, y1, y2⟩ := at_T37 h i h0 h1
  exact ⟨ad, e, ⟨y0, y1, y2⟩⟩
abbrev eT52 (p : Addr) (x : S52) (A2 : Option Addr) (c2 : Nat) (A4 : Option Addr) (c4 : Nat) (w : World) : Prop := w.cell? p = some (.int .i64 x.f0) ∧ w.cell? ⟨p.block, p.off + 1, none⟩ = some (.int .i64 x.f1) ∧ w.cell? ⟨p.block, p.off + 2, none⟩ = some (.slice A2 x.f2.length c2) ∧ w.cell? ⟨p.block, p.off + 3, none⟩ = some (.int .i64 x.f3.f0) ∧ w.cell? ⟨p.block, p.off + 4, none⟩ = some (.slice A4 x.f3.f1.length c4)
theorem att52 {w : World} {A : Option Addr} {n : Nat} {xs : List S52} (h : Kd.C k52 w A n xs) (i : Int) (h0 : 0 ≤ i) (h1 : i < n) : ∃ ad A2 c2 A4 c4, A = some ad ∧ (w.cell? (ad.add (i.toNat * 5)) = some (.int .i64 (rd_T52 xs i).f0) ∧ w.cell? ⟨(ad.add (i.toNat * 5)).block, (ad.add (i.toNat * 5)).off + 1, none⟩ = some (.int .i64 (rd_T52 xs i).f1) ∧ w.cell? ⟨(ad.add (i.toNat * 5)).block, (ad.add (i.toNat * 5)).off + 2, none⟩ = some (.slice A2 (rd_T52 xs i).f2.length c2) ∧ w.cell? ⟨(ad.add (i.toNat * 5)).block, (ad.add (i.toNat * 5)).off + 3, none⟩ = some (.int .i64 (rd_T52 xs i).f3.f0) ∧ w.cell? ⟨(ad.add (i.toNat * 5)).block, (ad.add (i.toNat * 5)).off + 4, none⟩ = some (.slice A4 (rd_T52 xs i).f3.f1.length c4)) ∧ (rd_T52 xs i).f2.length ≤ c2 ∧ k37.C w A2 (rd_T52 xs i).f2.length (rd_T52 xs i).f2 ∧ (rd_T52 xs i).f3.f1.length ≤ c4 ∧ (Kd.int .i64).C w A4 (rd_T52 xs i).f3.f1.length (rd_T52 xs i).f3.f1 := by
  obtain ⟨ad, A2, c2, A4, c4, e, y0, y1, y2, y3, y4, y5, y6, y7, y8⟩ := at_T52 h i h0 h1
  exact ⟨ad, A2, c2, A4, c4, e, ⟨y0, y1, y2, y3, y4⟩, y5, y6, y7, y8⟩
abbrev eT39 (p : Addr) (x : S39) (w : World) : Prop := w.cell? p = some (.int .i64 x.f0) ∧ w.cell? ⟨p.block, p.off + 1, none⟩ = some (.int .i64 x.f1) ∧ w.cell? ⟨p.block, p.off + 2, none⟩ = some (.int .i64 x.f2)
theorem att39 {w : World} {A : Option Addr} {n : Nat} {xs : List S39} (h : Kd.C k39 w A n xs) (i : Int) (h0 : 0 ≤ i) (h1 : i < n) : ∃ ad , A = some ad ∧ (w.cell? (ad.add (i.toNat * 3)) = some (.int .i64 (rd_T39 xs i).f0) ∧ w.cell? ⟨(ad.add (i.toNat * 3)).block, (ad.add (i.toNat * 3)).off + 1, none⟩ = some (.int .i64 (rd_T39 xs i).f1) ∧ w.cell? ⟨(ad.add (i.toNat * 3)).block, (ad.add (i.toNat * 3)).off + 2, none⟩ = some (.int .i64 (rd_T39 xs i).f2)) := by
  obtain ⟨ad, e, y0, y1, y2⟩ := at_T39 h i h0 h1
  exact ⟨ad, e, ⟨y0, y1, y2⟩⟩
abbrev eT82 (p : Addr) (x : S82) (A0 : Option Addr) (c0 : Nat) (A3 : Option Addr) (c3 : Nat) (A4 : Option Addr) (c4 : Nat) (w : World) : Prop := w.cell? p = some (.slice A0 x.f0.length c0) ∧ w.cell? ⟨p.block, p.off + 1, none⟩ = some (.int .i64 x.f1) ∧ w.cell? ⟨p.block, p.off + 2, none⟩ = some (.bool x.f2) ∧ w.cell? ⟨p.block, p.off + 3, none⟩ = some (.slice A3 x.f3.length c3) ∧ w.cell? ⟨p.block, p.off + 4, none⟩ = some (.slice A4 x.f4.length c4)
theorem att82 {w : World} {A : Option Addr} {n : Nat} {xs : List S82} (h : Kd.C k82 w A n xs) (i : Int) (h0 : 0 ≤ i) (h1 : i < n) : ∃ ad A0 c0 A3 c3 A4 c4, A = some ad ∧ (w.cell? (ad.add (i.toNat * 5)) = some (.slice A0 (rd_T82 xs i).f0.length c0) ∧ w.cell? ⟨(ad.add (i.toNat * 5)).block, (ad.add (i.toNat * 5)).off + 1, none⟩ = some (.int .i64 (rd_T82 xs i).f1) ∧ w.cell? ⟨(ad.add (i.toNat * 5)).block, (ad.add (i.toNat * 5)).off + 2, none⟩ = some (.bool (rd_T82 xs i).f2) ∧ w.cell? ⟨(ad.add (i.toNat * 5)).block, (ad.add (i.toNat * 5)).off + 3, none⟩ = some (.slice A3 (rd_T82 xs i).f3.length c3) ∧ w.cell? ⟨(ad.add (i.toNat * 5)).block, (ad.add (i.toNat * 5)).off + 4, none⟩ = some (.slice A4 (rd_T82 xs i).f4.length c4)) ∧ (rd_T82 xs i).f0.length ≤ c0 ∧ k132.C w A0 (rd_T82 xs i).f0.length (rd_T82 xs i).f0 ∧ (rd_T82 xs i).f3.length ≤ c3 ∧ k145.C w A3 (rd_T82 xs i).f3.length (rd_T82 xs i).f3 ∧ (rd_T82 xs i).f4.length ≤ c4 ∧ k42.C w A4 (rd_T82 xs i).f4.length (rd_T82 xs i).f4 := by
  obtain ⟨ad, A0, c0, A3, c3, A4, c4, e, y0, y1, y2, y3, y4, y5, y6, y7, y8, y9, y10⟩ := at_T82 h i h0 h1
  exact ⟨ad, A0, c0, A3, c3, A4, c4, e, ⟨y0, y1, y2, y3, y4⟩, y5, y6, y7, y8, y9, y10⟩
abbrev eT134 (p : Addr) (x : S134) (A8 : Option Addr) (c8 : Nat) (w : World) : Prop := w.cell? p = some (.int .i64 x.f0) ∧ w.cell? ⟨p.block, p.off + 1, none⟩ = some (.int .i64 x.f1.f0) ∧ w.cell? ⟨p.block, p.off + 2, none⟩ = some (.int .i64 x.f1.f1) ∧ w.cell? ⟨p.block, p.off + 3, none⟩ = some (.int .i64 x.f1.f2) ∧ w.cell? ⟨p.block, p.off + 4, none⟩ = some (.int .i64 x.f2) ∧ w.cell? ⟨p.block, p.off + 5, none⟩ = some (.int .i64 x.f3) ∧ w.cell? ⟨p.block, p.off + 6, none⟩ = some (.int .i64 x.f4) ∧ w.cell? ⟨p.block, p.off + 7, none⟩ = some (.int .i64 x.f5.f0) ∧ w.cell? ⟨p.block, p.off + 8, none⟩ = some (.slice A8 x.f5.f1.length c8)
theorem att134 {w : World} {A : Option Addr} {n : Nat} {xs : List S134} (h : Kd.C k134 w A n xs) (i : Int) (h0 : 0 ≤ i) (h1 : i < n) : ∃ ad A8 c8, A = some ad ∧ (w.cell? (ad.add (i.toNat * 9)) = some (.int .i64 (rd_T134 xs i).f0) ∧ w.cell? ⟨(ad.add (i.toNat * 9)).block, (ad.add (i.toNat * 9)).off + 1, none⟩ = some (.int .i64 (rd_T134 xs i).f1.f0) ∧ w.cell? ⟨(ad.add (i.toNat * 9)).block, (ad.add (i.toNat * 9)).off + 2, none⟩ = some (.int .i64 (rd_T134 xs i).f1.f1) ∧ w.cell? ⟨(ad.add (i.toNat * 9)).block, (ad.add (i.toNat * 9)).off + 3, none⟩ = some (.int .i64 (rd_T134 xs i).f1.f2) ∧ w.cell? ⟨(ad.add (i.toNat * 9)).block, (ad.add (i.toNat * 9)).off + 4, none⟩ = some (.int .i64 (rd_T134 xs i).f2) ∧ w.cell? ⟨(ad.add (i.toNat * 9)).block, (ad.add (i.toNat * 9)).off + 5, none⟩ = some (.int .i64 (rd_T134 xs i).f3) ∧ w.cell? ⟨(ad.add (i.toNat * 9)).block, (ad.add (i.toNat * 9)).off + 6, none⟩ = some (.int .i64 (rd_T134 xs i).f4) ∧ w.cell? ⟨(ad.add (i.toNat * 9)).block, (ad.add (i.toNat * 9)).off + 7, none⟩ = some (.int .i64 (rd_T134 xs i).f5.f0) ∧ w.cell? ⟨(ad.add (i.toNat * 9)).block, (ad.add (i.toNat * 9)).off + 8, none⟩ = some (.slice A8 (rd_T134 xs i).f5.f1.length c8)) ∧ (rd_T134 xs i).f5.f1.length ≤ c8 ∧ (Kd.int .i64).C w A8 (rd_T134 xs i).f5.f1.length (rd_T134 xs i).f5.f1 := by
  obtain ⟨ad, A8, c8, e, y0, y1, y2, y3, y4, y5, y6, y7, y8, y9, y10⟩ := at_T134 h i h0 h1
  exact ⟨ad, A8, c8, e, ⟨y0, y1, y2, y3, y4, y5, y6, y7, y8⟩, y9, y10⟩
end Go.Proofs.YtopikhjcbcpiaaaGreat.Q
end
namespace Go.Proofs.YtopikhjcbcpiaaaGreat.Q
open Go.RowKit Go.Proofs.YtopikhjcbcpiaaaGreatW.PrintWords Go.Proofs.YtopikhjcbcpiaaaGreatW.PrintLast Go.Proofs.YtopikhjcbcpiaaaGreatW.PrintMore
attribute [local go_sem] max2_int min2_int max_two min_two max_three min_three max_four min_four   -- for this text's walks alone
set_option linter.unusedVariables false
set_option linter.unusedSimpArgs false
def laws_szIntS.f (l0 : List Int) (a1 : Int) : Option (Int) := if (wrap64 (a1 - (l0.length : Int))) < 0 then (some (-1)) else (some (wrap64 (a1 - (l0.length : Int))))
set_option maxHeartbeats 8000000 in
set_option maxRecDepth 100000 in
theorem laws_szIntS.calls (A0 : Option Addr) (c0 : Nat) (l0 : List Int) (a1 : Int) (r : Int) (w : World) (hr0 : Kd.C (Kd.int .i64) w A0 l0.length l0) (hc0 : l0.length ≤ c0) (h : laws_szIntS.f l0 a1 = some r) :
  Calls Tryz.prog 83 #[.slice A0 l0.length c0, .int .i64 a1] w fun e w' => e = .returned (.int .i64 r) ∧ Drawn0 w w' := by
 have HR0 := Aside0.mk hr0
 have HC0 := Aside0.mk hc0
 clear hr0 hc0
 have H := h
 clear h
 unfold laws_szIntS.f at H
 revert H; refine icd (fun c3b0 H => ?pos) fun c3b0 H => ?_
 case pos =>
  obtain rfl := oin H
  go_enter Tryz.func83, Tryz.ntmps83
  go_wp2
  go_ret
  exact ⟨rsd, by repeat (first | exact Drawn0.refl _ | apply Drawn0.step)⟩
 obtain rfl := oin H
 go_enter Tryz.func83, Tryz.ntmps83
 go_wp2
 go_ret
 exact ⟨rsd, by repeat (first | exact Drawn0.refl _ | apply Drawn0.step)⟩
def laws_szWordS.f (l0 : List (S207)) (a1 : Int) : Option (Int) := if (wrap64 (a1 - (l0.length : Int))) < 0 then (some (-1)) else (some (wrap64 (a1 - (l0.length : Int))))
set_option maxHeartbeats 8000000 in
set_option maxRecDepth 100000 in
theorem laws_szWordS.calls (A0 : Option Addr) (c0 : Nat) (l0 : List (S207)) (a1 : Int) (r : Int) (w : World) (hr0 : Kd.C k207 w A0 l0.length l0) (hc0 : l0.length ≤ c0) (h : laws_szWordS.f l0 a1 = some r) :
  Calls Tryz.prog 135 #[.slice A0 l0.length c0, .int .i64 a1] w fun e w' => e = .returned (.int .i64 r) ∧ Drawn0 w w' := by
 have HR0 := Aside0.mk hr0
 have HC0 := Aside0.mk hc0
 clear hr0 hc0
 have H := h
 clear h
 unfold laws_szWordS.f at H
 revert H; refine icd (fun c3b0 H => ?pos) fun c3b0 H => ?_
 case pos =>
  obtain rfl := oin H
  go_enter Tryz.func135, Tryz.ntmps135
  go_wp2
  go_ret
  exact ⟨rsd, by repeat (first | exact Drawn0.refl _ | apply Drawn0.step)⟩
 obtain rfl := oin H
 go_enter Tryz.func135, Tryz.ntmps135
 go_wp2
 go_ret
 exact ⟨rsd, by repeat (first | exact Drawn0.refl _ | apply Drawn0.step)⟩
def laws_szRes.f (a0_0 : Int) (l0_1 : List Int) (a1 : Int) : Option (Int) := (laws_szIntS.f l0_1 a1).bind fun t102 => (if t102 < 0 then (some (-1)) else (some t102))
set_option maxHeartbeats 8000000 in
set_option maxRecDepth 100000 in
theorem laws_szRes.calls (a0_0 : Int) (A0_1 : Option Addr) (c0_1 : Nat) (l0_1 : List Int) (a1 : Int) (r : Int) (w : World) (hr0_1 : Kd.C (Kd.int .i64) w A0_1 l0_1.length l0_1) (hc0_1 : l0_1.length ≤ c0_1) (h : laws_szRes.f a0_0 l0_1 a1 = some r) :
  Calls Tryz.prog 173 #[.agg #[.int .i64 a0_0, .slice A0_1 l0_1.length c0_1], .int .i64 a1] w fun e w' => e = .returned (.int .i64 r) ∧ Below w.heap.size w w' := by
 have hu174 := Tryz.underlying174
 have HR0_1 := Aside0.mk hr0_1
 have HC0_1 := Aside0.mk hc0_1
 clear hr0_1 hc0_1
 have HB := Aside0.mk (Below.refl w.heap.size w)
 have H := h
 clear h
 unfold laws_szRes.f at H
 obtain ⟨t102, A3, H⟩ := bn H
 try dsimp only at H
 revert H; refine icd (fun c4b0 H => ?pos) fun c4b0 H => ?_
 case pos =>
  obtain rfl := oin H
  go_enter Tryz.func173, Tryz.ntmps173
  go_wp2_with (first | ((with_reducible refine gq 2 rfl ?_); refine bx0 HB (N := 2) (t := 174) ?_; clear HB; intro gb101 w5 BK101 GE101 HB; have hz6 := cs2_ BK101) | ((with_reducible refine gf 83 rfl ?_); refine gL 8 Tryz.func83 #[.slice A0_1 l0_1.length c0_1, .int .i64 a1] ?_; (with_reducible refine (laws_szIntS.calls _ _ l0_1 a1 t102 _ (kc HR0_1 HB) HC0_1.out A3.out).mono ?_); rintro e w' ⟨rfl, ⟨nd, rfl⟩⟩; refine ⟨_, rfl, ?_⟩))
  go_ret
  exact ⟨er, tb HB⟩
 obtain rfl := oin H
 go_enter Tryz.func173, Tryz.ntmps173
 go_wp2_with (first | ((with_reducible refine gq 2 rfl ?_); refine bx0 HB (N := 2) (t := 174) ?_; clear HB; intro gb101 w7 BK101 GE101 HB; have hz8 := cs2_ BK101) | ((with_reducible refine gf 83 rfl ?_); refine gL 8 Tryz.func83 #[.slice A0_1 l0_1.length c0_1, .int .i64 a1] ?_; (with_reducible refine (laws_szIntS.calls _ _ l0_1 a1 t102 _ (kc HR0_1 HB) HC0_1.out A3.out).mono ?_); rintro e w' ⟨rfl, ⟨nd, rfl⟩⟩; refine ⟨_, rfl, ?_⟩))
 go_ret
 exact ⟨er, tb HB⟩
def laws_szEntryS.f (l0 : List (S236)) (a1 : Int) : Option (Int) := if (wrap64 (a1 - (l0.length : Int))) < 0 then (some (-1)) else (some (wrap64 (a1 - (l0.length : Int))))
set_option maxHeartbeats 8000000 in
set_option maxRecDepth 100000 in
theorem laws_szEntryS.calls (A0 : Option Addr) (c0 : Nat) (l0 : List (S236)) (a1 : Int) (r : Int) (w : World) (hr0 : Kd.C k236 w A0 l0.length l0) (hc0 : l0.length ≤ c0) (h : laws_szEntryS.f l0 a1 = some r) :
  Calls Tryz.prog 190 #[.slice A0 l0.length c0, .int .i64 a1] w fun e w' => e = .returned (.int .i64 r) ∧ Drawn0 w w' := by
 have HR0 := Aside0.mk hr0
 have HC0 := Aside0.mk hc0
 clear hr0 hc0
 have H := h
 clear h
 unfold laws_szEntryS.f at H
 revert H; refine icd (fun c3b0 H => ?pos) fun c3b0 H => ?_
 case pos =>
  obtain rfl := oin H
  go_enter Tryz.func190, Tryz.ntmps190
  go_wp2
  go_ret
  exact ⟨rsd, by repeat (first | exact Drawn0.refl _ | apply Drawn0.step)⟩
 obtain rfl := oin H
 go_enter Tryz.func190, Tryz.ntmps190
 go_wp2
 go_ret
 exact ⟨rsd, by repeat (first | exact Drawn0.refl _ | apply Drawn0.step)⟩
def laws_szDesc.f (a0_0 : Int) (a0_1 : Int) (l0_2 : List (S236)) (a0_3 : Int) (l0_4 : List Int) (a1 : Int) : Option (Int) := (laws_szEntryS.f l0_2 a1).bind fun t104 => (if t104 < 0 then (some (-1)) else ((laws_szRes.f a0_3 l0_4 t104).bind fun t105 => (if t105 < 0 then (some (-1)) else (some t105))))
set_option maxHeartbeats 8000000 in
set_option maxRecDepth 100000 in
theorem laws_szDesc.calls (a0_0 : Int) (a0_1 : Int) (A0_2 : Option Addr) (c0_2 : Nat) (l0_2 : List (S236)) (a0_3 : Int) (A0_4 : Option Addr) (c0_4 : Nat) (l0_4 : List Int) (a1 : Int) (r : Int) (w : World) (hr0_2 : Kd.C k236 w A0_2 l0_2.length l0_2) (hc0_2 : l0_2.length ≤ c0_2) (hr0_4 : Kd.C (Kd.int .i64) w A0_4 l0_4.length l0_4) (hc0_4 : l0_4.length ≤ c0_4) (h : laws_szDesc.f a0_0 a0_1 l0_2 a0_3 l0_4 a1 = some r) :
  Calls Tryz.prog 169 #[.agg #[.int .i64 a0_0, .int .i64 a0_1, .slice A0_2 l0_2.length c0_2, .int .i64 a0_3, .slice A0_4 l0_4.length c0_4], .int .i64 a1] w fun e w' => e = .returned (.int .i64 r) ∧ Below w.heap.size w w' := by
 have hu201 := Tryz.underlying201
 have hu174 := Tryz.underlying174
 have HR0_2 := Aside0.mk hr0_2
 have HC0_2 := Aside0.mk hc0_2
 clear hr0_2 hc0_2
 have HR0_4 := Aside0.mk hr0_4
 have HC0_4 := Aside0.mk hc0_4
 clear hr0_4 hc0_4
 have HB := Aside0.mk (Below.refl w.heap.size w)
 have H := h
 clear h
 unfold laws_szDesc.f at H
 obtain ⟨t104, A3, H⟩ := bn H
 try dsimp only at H
 revert H; refine icd (fun c4b0 H => ?pos) fun c4b0 H => ?_
 case pos =>
  obtain rfl := oin H
  go_enter Tryz.func169, Tryz.ntmps169
  go_wp2_with (first | ((with_reducible refine gq 2 rfl ?_); refine bx0 HB (N := 2) (t := 201) ?_; clear HB; intro gb103 w5 BK103 GE103 HB; have hz6 := cs5_ BK103) | ((with_reducible refine gf 190 rfl ?_); refine gL 8 Tryz.func190 #[.slice A0_2 l0_2.length c0_2, .int .i64 a1] ?_; (with_reducible refine (laws_szEntryS.calls _ _ l0_2 a1 t104 _ (kc HR0_2 HB) HC0_2.out A3.out).mono ?_); rintro e w' ⟨rfl, ⟨nd, rfl⟩⟩; refine ⟨_, rfl, ?_⟩))
  go_ret
  exact ⟨er, tb HB⟩
 obtain ⟨t105, A7, H⟩ := bn H
 try dsimp only at H
 revert H; refine icd (fun c8b0 H => ?pos) fun c8b0 H => ?_
 case pos =>
  obtain rfl := oin H
  go_enter Tryz.func169, Tryz.ntmps169
  go_wp2_with (first | ((with_reducible refine gq 2 rfl ?_); refine bx0 HB (N := 2) (t := 201) ?_; clear HB; intro gb103 w9 BK103 GE103 HB; have hz10 := cs5_ BK103) | ((with_reducible refine gf 190 rfl ?_); refine gL 8 Tryz.func190 #[.slice A0_2 l0_2.length c0_2, .int .i64 a1] ?_; (with_reducible refine (laws_szEntryS.calls _ _ l0_2 a1 t104 _ (kc HR0_2 HB) HC0_2.out A3.out).mono ?_); rintro e w' ⟨rfl, ⟨nd, rfl⟩⟩; refine ⟨_, rfl, ?_⟩) | ((with_reducible refine gf 173 rfl ?_); refine gL 14 Tryz.func173 #[.agg #[.int .i64 a0_3, .slice A0_4 l0_4.length c0_4], .int .i64 t104] ?_; (with_reducible refine (laws_szRes.calls a0_3 _ _ l0_4 t104 t105 _ ?side1 HC0_4.out A7.out).mono ?_); (case side1 => repeat (first | exact (Kd.C_below HR0_4.out (tb HB)) | (with_reducible refine Kd.C_alloc ?_ _) | (with_reducible refine Kd.C_drewN ?_ _) | (with_reducible refine Kd.C_drew ?_))); rintro e w11 ⟨rfl, hb⟩; refine ⟨_, rfl, ?_⟩; replace BK103 := bb BK103 hb; replace HB := bs HB hb; (try clear hb)))
  go_ret
  exact ⟨er, tb HB⟩
 obtain rfl := oin H
 go_enter Tryz.func169, Tryz.ntmps169
 go_wp2_with (first | ((with_reducible refine gq 2 rfl ?_); refine bx0 HB (N := 2) (t := 201) ?_; clear HB; intro gb103 w12 BK103 GE103 HB; have hz13 := cs5_ BK103) | ((with_reducible refine gf 190 rfl ?_); refine gL 8 Tryz.func190 #[.slice A0_2 l0_2.length c0_2, .int .i64 a1] ?_; (with_reducible refine (laws_szEntryS.calls _ _ l0_2 a1 t104 _ (kc HR0_2 HB) HC0_2.out A3.out).mono ?_); rintro e w' ⟨rfl, ⟨nd, rfl⟩⟩; refine ⟨_, rfl, ?_⟩) | ((with_reducible refine gf 173 rfl ?_); refine gL 14 Tryz.func173 #[.agg #[.int .i64 a0_3, .slice A0_4 l0_4.length c0_4], .int .i64 t104] ?_; (with_reducible refine (laws_szRes.calls a0_3 _ _ l0_4 t104 t105 _ ?side1 HC0_4.out A7.out).mono ?_); (case side1 => repeat (first | exact (Kd.C_below HR0_4.out (tb HB)) | (with_reducible refine Kd.C_alloc ?_ _) | (with_reducible refine Kd.C_drewN ?_ _) | (with_reducible refine Kd.C_drew ?_))); rintro e w14 ⟨rfl, hb⟩; refine ⟨_, rfl, ?_⟩; replace BK103 := bb BK103 hb; replace HB := bs HB hb; (try clear hb)))
 go_ret
 exact ⟨er, tb HB⟩
def laws_szDescS.l0 : Nat → List (S201) → Int → Int → Option (Int)
 | 0, _, _, _ => none
 | k + 1, x0, x1, x5 => if x5 < (x0.length : Int) then (if 0 ≤ x5 then ((laws_szDesc.f ((rd_T201 x0 x5).f0) ((rd_T201 x0 x5).f1) ((rd_T201 x0 x5).f2) ((rd_T201 x0 x5).f3.f0) ((rd_T201 x0 x5).f3.f1) x1).bind fun t107 => (if t107 < 0 then (some (-1)) else (laws_szDescS.l0 k x0 t107 (wrap64 (x5 + 1))))) else (none)) else (some x1)
def laws_szDescS.f (k : Nat) (l0 : List (S201)) (a1 : Int) : Option (Int) := if (wrap64 (a1 - (l0.length : Int))) < 0 then (some (-1)) else (laws_szDescS.l0 k l0 (wrap64 (a1 - (l0.length : Int))) 0)
set_option maxHeartbeats 8000000 in
set_option maxRecDepth 100000 in
theorem laws_szDescS.calls (k : Nat) (A0 : Option Addr) (c0 : Nat) (l0 : List (S201)) (a1 : Int) (r : Int) (w : World) (hr0 : Kd.C k201 w A0 l0.length l0) (hc0 : l0.length ≤ c0) (h : laws_szDescS.f k l0 a1 = some r) :
  Calls Tryz.prog 136 #[.slice A0 l0.length c0, .int .i64 a1] w fun e w' => e = .returned (.int .i64 r) ∧ Below w.heap.size w w' := by
 have hu201 := Tryz.underlying201
 have HR0 := Aside0.mk hr0
 have HC0 := Aside0.mk hc0
 clear hr0 hc0
 have HB := Aside0.mk (Below.refl w.heap.size w)
 have H := h
 clear h
 unfold laws_szDescS.f at H
 revert H; refine icd (fun c3b0 H => ?pos) fun c3b0 H => ?_
 case pos =>
  obtain rfl := oin H
  go_enter Tryz.func136, Tryz.ntmps136
  go_wp2
  go_ret
  exact ⟨er, tb HB⟩
 have H' := Aside0.mk H
 clear H
 go_enter Tryz.func136, Tryz.ntmps136
 go_wp2
 go_loopg [1, 5] k (fun kq v1 v5 w' => ∃ (x1_1 : Int) (x5_1 : Int), v1 = .int .i64 x1_1 ∧ v5 = .int .i64 x5_1 ∧ Aside0 (laws_szDescS.l0 kq l0 x1_1 x5_1 = some r) ∧ Aside0 (kq ≤ k) ∧ Aside0 (Below w.heap.size w w'))
 case atStart => exact ⟨(wrap64 (a1 - (l0.length : Int))), (0), rsd, rsd, H', ⟨Nat.le_refl _⟩, ⟨tb HB⟩⟩
 case round =>
  clear H'
  try clear c1
  try clear p2
  try clear c3
  try clear c3b0
  obtain ⟨x1_1, x5_1, rfl, rfl, HA, HK1, HB⟩ := hrel
  cases gk with
  | zero => exact absurd HA.out (by simp [laws_szDescS.l0])
  | succ k1 =>
   have H := HA.out
   clear HA
   simp only [laws_szDescS.l0] at H
   revert H; refine icd (fun c4b0 H => ?_) fun c4b0 H => ?neg
   case neg =>
    obtain rfl := oin H
    go_wp2
    go_ret
    exact ⟨er, tb HB⟩
   obtain ⟨c5b0, H⟩ := itd H
   obtain ⟨t107, A6, H⟩ := bn H
   try dsimp only at H
   revert H; refine icd (fun c7b0 H => ?_) fun c7b0 H => ?neg
   case neg =>
    have H' := Aside0.mk H
    clear H
    have p106 : 0 ≤ (x5_1 : Int) := od
    have q106 : x5_1 < (l0.length : Int) := od
    obtain ⟨ad106, A106_2, c106_2, A106_4, c106_4, e106, hx106, hl106_2, hi106_2, hl106_4, hi106_4⟩ := att201 HR0.out x5_1 p106 q106
    cases e106
    replace hx106 := ox5 HB hx106
    have HR106_2 := Aside0.mk hi106_2
    have HC106_2 := Aside0.mk hl106_2
    clear hi106_2 hl106_2
    have HR106_4 := Aside0.mk hi106_4
    have HC106_4 := Aside0.mk hl106_4
    clear hi106_4 hl106_4
    replace p106 := eq_true p106
    replace q106 := eq_true q106
    go_wp2_with (first | ((with_reducible refine gf 169 rfl ?_); refine gL 23 Tryz.func169 #[.agg #[.int .i64 ((rd_T201 l0 x5_1).f0), .int .i64 ((rd_T201 l0 x5_1).f1), .slice A106_2 ((rd_T201 l0 x5_1).f2).length c106_2, .int .i64 ((rd_T201 l0 x5_1).f3.f0), .slice A106_4 ((rd_T201 l0 x5_1).f3.f1).length c106_4], .int .i64 x1_1] ?_; (with_reducible refine (laws_szDesc.calls ((rd_T201 l0 x5_1).f0) ((rd_T201 l0 x5_1).f1) _ _ ((rd_T201 l0 x5_1).f2) ((rd_T201 l0 x5_1).f3.f0) _ _ ((rd_T201 l0 x5_1).f3.f1) x1_1 t107 _ (kc HR106_2 HB) HC106_2.out (kc HR106_4 HB) HC106_4.out A6.out).mono ?_); rintro e w9 ⟨rfl, hb⟩; refine ⟨_, rfl, ?_⟩; replace HB := bs HB hb; (try clear hb)))
    go_roundg k1
    case measure => have := HK1.out; omega
    case rel => exact ⟨(t107), (wrap64 (x5_1 + 1)), rsd, rsd, H', ⟨by have := HK1.out; omega⟩, ⟨tb HB⟩⟩
   obtain rfl := oin H
   have p106 : 0 ≤ (x5_1 : Int) := od
   have q106 : x5_1 < (l0.length : Int) := od
   obtain ⟨ad106, A106_2, c106_2, A106_4, c106_4, e106, hx106_0, hx106_1, hx106_2, hx106_3, hx106_4, hl106_2, hi106_2, hl106_4, hi106_4⟩ := at_T201 HR0.out x5_1 p106 q106
   cases e106
   replace hx106_0 := ox HB hx106_0
   replace hx106_1 := ox HB hx106_1
   replace hx106_2 := ox HB hx106_2
   replace hx106_3 := ox HB hx106_3
   replace hx106_4 := ox HB hx106_4
   have HR106_2 := Aside0.mk hi106_2
   have HC106_2 := Aside0.mk hl106_2
   clear hi106_2 hl106_2
   have HR106_4 := Aside0.mk hi106_4
   have HC106_4 := Aside0.mk hl106_4
   clear hi106_4 hl106_4
   replace p106 := eq_true p106
   replace q106 := eq_true q106
   go_wp2_with (first | ((with_reducible refine gf 169 rfl ?_); refine gL 23 Tryz.func169 #[.agg #[.int .i64 ((rd_T201 l0 x5_1).f0), .int .i64 ((rd_T201 l0 x5_1).f1), .slice A106_2 ((rd_T201 l0 x5_1).f2).length c106_2, .int .i64 ((rd_T201 l0 x5_1).f3.f0), .slice A106_4 ((rd_T201 l0 x5_1).f3.f1).length c106_4], .int .i64 x1_1] ?_; (with_reducible refine (laws_szDesc.calls ((rd_T201 l0 x5_1).f0) ((rd_T201 l0 x5_1).f1) _ _ ((rd_T201 l0 x5_1).f2) ((rd_T201 l0 x5_1).f3.f0) _ _ ((rd_T201 l0 x5_1).f3.f1) x1_1 t107 _ (kc HR106_2 HB) HC106_2.out (kc HR106_4 HB) HC106_4.out A6.out).mono ?_); rintro e w8 ⟨rfl, hb⟩; refine ⟨_, rfl, ?_⟩; replace HB := bs HB hb; (try clear hb)))
   go_ret
   exact ⟨er, tb HB⟩
def laws_szMem.f (k : Nat) (l0_0 : List (S207)) (l0_1 : List (S201)) (a1 : Int) : Option (Int) := (laws_szWordS.f l0_0 a1).bind fun t109 => (if t109 < 0 then (some (-1)) else ((laws_szDescS.f k l0_1 t109).bind fun t110 => (if t110 < 0 then (some (-1)) else (some t110))))
set_option maxHeartbeats 8000000 in
set_option maxRecDepth 100000 in
theorem laws_szMem.calls (k : Nat) (A0_0 : Option Addr) (c0_0 : Nat) (l0_0 : List (S207)) (A0_1 : Option Addr) (c0_1 : Nat) (l0_1 : List (S201)) (a1 : Int) (r : Int) (w : World) (hr0_0 : Kd.C k207 w A0_0 l0_0.length l0_0) (hc0_0 : l0_0.length ≤ c0_0) (hr0_1 : Kd.C k201 w A0_1 l0_1.length l0_1) (hc0_1 : l0_1.length ≤ c0_1) (h : laws_szMem.f k l0_0 l0_1 a1 = some r) :
  Calls Tryz.prog 80 #[.agg #[.slice A0_0 l0_0.length c0_0, .slice A0_1 l0_1.length c0_1], .int .i64 a1] w fun e w' => e = .returned (.int .i64 r) ∧ Below w.heap.size w w' := by
 have hu62 := Tryz.underlying62
 have HR0_0 := Aside0.mk hr0_0
 have HC0_0 := Aside0.mk hc0_0
 clear hr0_0 hc0_0
 have HR0_1 := Aside0.mk hr0_1
 have HC0_1 := Aside0.mk hc0_1
 clear hr0_1 hc0_1
 have HB := Aside0.mk (Below.refl w.heap.size w)
 have H := h
 clear h
 unfold laws_szMem.f at H
 obtain ⟨t109, A3, H⟩ := bn H
 try dsimp only at H
 revert H; refine icd (fun c4b0 H => ?pos) fun c4b0 H => ?_
 case pos =>
  obtain rfl := oin H
  go_enter Tryz.func80, Tryz.ntmps80
  go_wp2_with (first | ((with_reducible refine gq 2 rfl ?_); refine bx0 HB (N := 2) (t := 62) ?_; clear HB; intro gb108 w5 BK108 GE108 HB; have hz6 := cs2_ BK108) | ((with_reducible refine gf 135 rfl ?_); refine gL 8 Tryz.func135 #[.slice A0_0 l0_0.length c0_0, .int .i64 a1] ?_; (with_reducible refine (laws_szWordS.calls _ _ l0_0 a1 t109 _ (kc HR0_0 HB) HC0_0.out A3.out).mono ?_); rintro e w' ⟨rfl, ⟨nd, rfl⟩⟩; refine ⟨_, rfl, ?_⟩))
  go_ret
  exact ⟨er, tb HB⟩
 obtain ⟨t110, A7, H⟩ := bn H
 try dsimp only at H
 revert H; refine icd (fun c8b0 H => ?pos) fun c8b0 H => ?_
 case pos =>
  obtain rfl := oin H
  go_enter Tryz.func80, Tryz.ntmps80
  go_wp2_with (first | ((with_reducible refine gq 2 rfl ?_); refine bx0 HB (N := 2) (t := 62) ?_; clear HB; intro gb108 w9 BK108 GE108 HB; have hz10 := cs2_ BK108) | ((with_reducible refine gf 135 rfl ?_); refine gL 8 Tryz.func135 #[.slice A0_0 l0_0.length c0_0, .int .i64 a1] ?_; (with_reducible refine (laws_szWordS.calls _ _ l0_0 a1 t109 _ (kc HR0_0 HB) HC0_0.out A3.out).mono ?_); rintro e w' ⟨rfl, ⟨nd, rfl⟩⟩; refine ⟨_, rfl, ?_⟩) | ((with_reducible refine gf 136 rfl ?_); refine gL 14 Tryz.func136 #[.slice A0_1 l0_1.length c0_1, .int .i64 t109] ?_; (with_reducible refine (laws_szDescS.calls k _ _ l0_1 t109 t110 _ ?side1 HC0_1.out A7.out).mono ?_); (case side1 => repeat (first | exact (Kd.C_below HR0_1.out (tb HB)) | (with_reducible refine Kd.C_alloc ?_ _) | (with_reducible refine Kd.C_drewN ?_ _) | (with_reducible refine Kd.C_drew ?_))); rintro e w11 ⟨rfl, hb⟩; refine ⟨_, rfl, ?_⟩; replace BK108 := bb BK108 hb; replace HB := bs HB hb; (try clear hb)))
  go_ret
  exact ⟨er, tb HB⟩
 obtain rfl := oin H
 go_enter Tryz.func80, Tryz.ntmps80
 go_wp2_with (first | ((with_reducible refine gq 2 rfl ?_); refine bx0 HB (N := 2) (t := 62) ?_; clear HB; intro gb108 w12 BK108 GE108 HB; have hz13 := cs2_ BK108) | ((with_reducible refine gf 135 rfl ?_); refine gL 8 Tryz.func135 #[.slice A0_0 l0_0.length c0_0, .int .i64 a1] ?_; (with_reducible refine (laws_szWordS.calls _ _ l0_0 a1 t109 _ (kc HR0_0 HB) HC0_0.out A3.out).mono ?_); rintro e w' ⟨rfl, ⟨nd, rfl⟩⟩; refine ⟨_, rfl, ?_⟩) | ((with_reducible refine gf 136 rfl ?_); refine gL 14 Tryz.func136 #[.slice A0_1 l0_1.length c0_1, .int .i64 t109] ?_; (with_reducible refine (laws_szDescS.calls k _ _ l0_1 t109 t110 _ ?side1 HC0_1.out A7.out).mono ?_); (case side1 => repeat (first | exact (Kd.C_below HR0_1.out (tb HB)) | (with_reducible refine Kd.C_alloc ?_ _) | (with_reducible refine Kd.C_drewN ?_ _) | (with_reducible refine Kd.C_drew ?_))); rintro e w14 ⟨rfl, hb⟩; refine ⟨_, rfl, ?_⟩; replace BK108 := bb BK108 hb; replace HB := bs HB hb; (try clear hb)))
 go_ret
 exact ⟨er, tb HB⟩
def laws_szOpS.f (l0 : List (S173)) (a1 : Int) : Option (Int) := if (wrap64 (a1 - (l0.length : Int))) < 0 then (some (-1)) else (some (wrap64 (a1 - (l0.length : Int))))
set_option maxHeartbeats 8000000 in
set_option maxRecDepth 100000 in
theorem laws_szOpS.calls (A0 : Option Addr) (c0 : Nat) (l0 : List (S173)) (a1 : Int) (r : Int) (w : World) (hr0 : Kd.C k173 w A0 l0.length l0) (hc0 : l0.length ≤ c0) (h : laws_szOpS.f l0 a1 = some r) :
  Calls Tryz.prog 170 #[.slice A0 l0.length c0, .int .i64 a1] w fun e w' => e = .returned (.int .i64 r) ∧ Drawn0 w w' := by
 have HR0 := Aside0.mk hr0
 have HC0 := Aside0.mk hc0
 clear hr0 hc0
 have H := h
 clear h
 unfold laws_szOpS.f at H
 revert H; refine icd (fun c3b0 H => ?pos) fun c3b0 H => ?_
 case pos =>
  obtain rfl := oin H
  go_enter Tryz.func170, Tryz.ntmps170
  go_wp2
  go_ret
  exact ⟨rsd, by repeat (first | exact Drawn0.refl _ | apply Drawn0.step)⟩
 obtain rfl := oin H
 go_enter Tryz.func170, Tryz.ntmps170
 go_wp2
 go_ret
 exact ⟨rsd, by repeat (first | exact Drawn0.refl _ | apply Drawn0.step)⟩
def laws_szPairS.f (l0 : List (S224)) (a1 : Int) : Option (Int) := if (wrap64 (a1 - (l0.length : Int))) < 0 then (some (-1)) else (some (wrap64 (a1 - (l0.length : Int))))
set_option maxHeartbeats 8000000 in
set_option maxRecDepth 100000 in
theorem laws_szPairS.calls (A0 : Option Addr) (c0 : Nat) (l0 : List (S224)) (a1 : Int) (r : Int) (w : World) (hr0 : Kd.C k224 w A0 l0.length l0) (hc0 : l0.length ≤ c0) (h : laws_szPairS.f l0 a1 = some r) :
  Calls Tryz.prog 171 #[.slice A0 l0.length c0, .int .i64 a1] w fun e w' => e = .returned (.int .i64 r) ∧ Drawn0 w w' := by
 have HR0 := Aside0.mk hr0
 have HC0 := Aside0.mk hc0
 clear hr0 hc0
 have H := h
 clear h
 unfold laws_szPairS.f at H
 revert H; refine icd (fun c3b0 H => ?pos) fun c3b0 H => ?_
 case pos =>
  obtain rfl := oin H
  go_enter Tryz.func171, Tryz.ntmps171
  go_wp2
  go_ret
  exact ⟨rsd, by repeat (first | exact Drawn0.refl _ | apply Drawn0.step)⟩
 obtain rfl := oin H
 go_enter Tryz.func171, Tryz.ntmps171
 go_wp2
 go_ret
 exact ⟨rsd, by repeat (first | exact Drawn0.refl _ | apply Drawn0.step)⟩
def laws_szHelpS.f (l0 : List (S226)) (a1 : Int) : Option (Int) := if (wrap64 (a1 - (l0.length : Int))) < 0 then (some (-1)) else (some (wrap64 (a1 - (l0.length : Int))))
set_option maxHeartbeats 8000000 in
set_option maxRecDepth 100000 in
theorem laws_szHelpS.calls (A0 : Option Addr) (c0 : Nat) (l0 : List (S226)) (a1 : Int) (r : Int) (w : World) (hr0 : Kd.C k226 w A0 l0.length l0) (hc0 : l0.length ≤ c0) (h : laws_szHelpS.f l0 a1 = some r) :
  Calls Tryz.prog 172 #[.slice A0 l0.length c0, .int .i64 a1] w fun e w' => e = .returned (.int .i64 r) ∧ Drawn0 w w' := by
 have HR0 := Aside0.mk hr0
 have HC0 := Aside0.mk hc0
 clear hr0 hc0
 have H := h
 clear h
 unfold laws_szHelpS.f at H
 revert H; refine icd (fun c3b0 H => ?pos) fun c3b0 H => ?_
 case pos =>
  obtain rfl := oin H
  go_enter Tryz.func172, Tryz.ntmps172
  go_wp2
  go_ret
  exact ⟨rsd, by repeat (first | exact Drawn0.refl _ | apply Drawn0.step)⟩
 obtain rfl := oin H
 go_enter Tryz.func172, Tryz.ntmps172
 go_wp2
 go_ret
 exact ⟨rsd, by repeat (first | exact Drawn0.refl _ | apply Drawn0.step)⟩
def laws_szThread.f (l0_0 : List (S173)) (a0_1 : Int) (a0_2 : Bool) (l0_3 : List (S224)) (l0_4 : List (S226)) (a1 : Int) : Option (Int) := (laws_szOpS.f l0_0 a1).bind fun t112 => (if t112 < 0 then (some (-1)) else ((laws_szPairS.f l0_3 t112).bind fun t113 => (if t113 < 0 then (some (-1)) else ((laws_szHelpS.f l0_4 t113).bind fun t114 => (if t114 < 0 then (some (-1)) else (some t114))))))
set_option maxHeartbeats 8000000 in
set_option maxRecDepth 100000 in
theorem laws_szThread.calls (A0_0 : Option Addr) (c0_0 : Nat) (l0_0 : List (S173)) (a0_1 : Int) (a0_2 : Bool) (A0_3 : Option Addr) (c0_3 : Nat) (l0_3 : List (S224)) (A0_4 : Option Addr) (c0_4 : Nat) (l0_4 : List (S226)) (a1 : Int) (r : Int) (w : World) (hr0_0 : Kd.C k173 w A0_0 l0_0.length l0_0) (hc0_0 : l0_0.length ≤ c0_0) (hr0_3 : Kd.C k224 w A0_3 l0_3.length l0_3) (hc0_3 : l0_3.length ≤ c0_3) (hr0_4 : Kd.C k226 w A0_4 l0_4.length l0_4) (hc0_4 : l0_4.length ≤ c0_4) (h : laws_szThread.f l0_0 a0_1 a0_2 l0_3 l0_4 a1 = some r) :
  Calls Tryz.prog 137 #[.agg #[.slice A0_0 l0_0.length c0_0, .int .i64 a0_1, .bool a0_2, .slice A0_3 l0_3.length c0_3, .slice A0_4 l0_4.length c0_4], .int .i64 a1] w fun e w' => e = .returned (.int .i64 r) ∧ Below w.heap.size w w' := by
 have hu171 := Tryz.underlying171
 have HR0_0 := Aside0.mk hr0_0
 have HC0_0 := Aside0.mk hc0_0
 clear hr0_0 hc0_0
 have HR0_3 := Aside0.mk hr0_3
 have HC0_3 := Aside0.mk hc0_3
 clear hr0_3 hc0_3
 have HR0_4 := Aside0.mk hr0_4
 have HC0_4 := Aside0.mk hc0_4
 clear hr0_4 hc0_4
 have HB := Aside0.mk (Below.refl w.heap.size w)
 have H := h
 clear h
 unfold laws_szThread.f at H
 obtain ⟨t112, A3, H⟩ := bn H
 try dsimp only at H
 revert H; refine icd (fun c4b0 H => ?pos) fun c4b0 H => ?_
 case pos =>
  obtain rfl := oin H
  go_enter Tryz.func137, Tryz.ntmps137
  go_wp2_with (first | ((with_reducible refine gq 2 rfl ?_); refine bx0 HB (N := 2) (t := 171) ?_; clear HB; intro gb111 w5 BK111 GE111 HB; have hz6 := cs5_ BK111) | ((with_reducible refine gf 170 rfl ?_); refine gL 8 Tryz.func170 #[.slice A0_0 l0_0.length c0_0, .int .i64 a1] ?_; (with_reducible refine (laws_szOpS.calls _ _ l0_0 a1 t112 _ (kc HR0_0 HB) HC0_0.out A3.out).mono ?_); rintro e w' ⟨rfl, ⟨nd, rfl⟩⟩; refine ⟨_, rfl, ?_⟩))
  go_ret
  exact ⟨er, tb HB⟩
 obtain ⟨t113, A7, H⟩ := bn H
 try dsimp only at H
 revert H; refine icd (fun c8b0 H => ?pos) fun c8b0 H => ?_
 case pos =>
  obtain rfl := oin H
  go_enter Tryz.func137, Tryz.ntmps137
  go_wp2_with (first | ((with_reducible refine gq 2 rfl ?_); refine bx0 HB (N := 2) (t := 171) ?_; clear HB; intro gb111 w9 BK111 GE111 HB; have hz10 := cs5_ BK111) | ((with_reducible refine gf 170 rfl ?_); refine gL 8 Tryz.func170 #[.slice A0_0 l0_0.length c0_0, .int .i64 a1] ?_; (with_reducible refine (laws_szOpS.calls _ _ l0_0 a1 t112 _ (kc HR0_0 HB) HC0_0.out A3.out).mono ?_); rintro e w' ⟨rfl, ⟨nd, rfl⟩⟩; refine ⟨_, rfl, ?_⟩) | ((with_reducible refine gf 171 rfl ?_); refine gL 14 Tryz.func171 #[.slice A0_3 l0_3.length c0_3, .int .i64 t112] ?_; (with_reducible refine (laws_szPairS.calls _ _ l0_3 t112 t113 _ ?side1 HC0_3.out A7.out).mono ?_); (case side1 => repeat (first | exact (Kd.C_below HR0_3.out (tb HB)) | (with_reducible refine Kd.C_alloc ?_ _) | (with_reducible refine Kd.C_drewN ?_ _) | (with_reducible refine Kd.C_drew ?_))); rintro e w' ⟨rfl, ⟨nd, rfl⟩⟩; refine ⟨_, rfl, ?_⟩))
  go_ret
  exact ⟨er, tb HB⟩
 obtain ⟨t114, A11, H⟩ := bn H
 try dsimp only at H
 revert H; refine icd (fun c12b0 H => ?pos) fun c12b0 H => ?_
 case pos =>
  obtain rfl := oin H
  go_enter Tryz.func137, Tryz.ntmps137
  go_wp2_with (first | ((with_reducible refine gq 2 rfl ?_); refine bx0 HB (N := 2) (t := 171) ?_; clear HB; intro gb111 w13 BK111 GE111 HB; have hz14 := cs5_ BK111) | ((with_reducible refine gf 170 rfl ?_); refine gL 8 Tryz.func170 #[.slice A0_0 l0_0.length c0_0, .int .i64 a1] ?_; (with_reducible refine (laws_szOpS.calls _ _ l0_0 a1 t112 _ (kc HR0_0 HB) HC0_0.out A3.out).mono ?_); rintro e w' ⟨rfl, ⟨nd, rfl⟩⟩; refine ⟨_, rfl, ?_⟩) | ((with_reducible refine gf 171 rfl ?_); refine gL 14 Tryz.func171 #[.slice A0_3 l0_3.length c0_3, .int .i64 t112] ?_; (with_reducible refine (laws_szPairS.calls _ _ l0_3 t112 t113 _ ?side1 HC0_3.out A7.out).mono ?_); (case side1 => repeat (first | exact (Kd.C_below HR0_3.out (tb HB)) | (with_reducible refine Kd.C_alloc ?_ _) | (with_reducible refine Kd.C_drewN ?_ _) | (with_reducible refine Kd.C_drew ?_))); rintro e w' ⟨rfl, ⟨nd, rfl⟩⟩; refine ⟨_, rfl, ?_⟩) | ((with_reducible refine gf 172 rfl ?_); refine gL 20 Tryz.func172 #[.slice A0_4 l0_4.length c0_4, .int .i64 t113] ?_; (with_reducible refine (laws_szHelpS.calls _ _ l0_4 t113 t114 _ ?side1 HC0_4.out A11.out).mono ?_); (case side1 => repeat (first | exact (Kd.C_below HR0_4.out (tb HB)) | (with_reducible refine Kd.C_alloc ?_ _) | (with_reducible refine Kd.C_drewN ?_ _) | (with_reducible refine Kd.C_drew ?_))); rintro e w' ⟨rfl, ⟨nd, rfl⟩⟩; refine ⟨_, rfl, ?_⟩))
  go_ret
  exact ⟨er, tb HB⟩
 obtain rfl := oin H
 go_enter Tryz.func137, Tryz.ntmps137
 go_wp2_with (first | ((with_reducible refine gq 2 rfl ?_); refine bx0 HB (N := 2) (t := 171) ?_; clear HB; intro gb111 w15 BK111 GE111 HB; have hz16 := cs5_ BK111) | ((with_reducible refine gf 170 rfl ?_); refine gL 8 Tryz.func170 #[.slice A0_0 l0_0.length c0_0, .int .i64 a1] ?_; (with_reducible refine (laws_szOpS.calls _ _ l0_0 a1 t112 _ (kc HR0_0 HB) HC0_0.out A3.out).mono ?_); rintro e w' ⟨rfl, ⟨nd, rfl⟩⟩; refine ⟨_, rfl, ?_⟩) | ((with_reducible refine gf 171 rfl ?_); refine gL 14 Tryz.func171 #[.slice A0_3 l0_3.length c0_3, .int .i64 t112] ?_; (with_reducible refine (laws_szPairS.calls _ _ l0_3 t112 t113 _ ?side1 HC0_3.out A7.out).mono ?_); (case side1 => repeat (first | exact (Kd.C_below HR0_3.out (tb HB)) | (with_reducible refine Kd.C_alloc ?_ _) | (with_reducible refine Kd.C_drewN ?_ _) | (with_reducible refine Kd.C_drew ?_))); rintro e w' ⟨rfl, ⟨nd, rfl⟩⟩; refine ⟨_, rfl, ?_⟩) | ((with_reducible refine gf 172 rfl ?_); refine gL 20 Tryz.func172 #[.slice A0_4 l0_4.length c0_4, .int .i64 t113] ?_; (with_reducible refine (laws_szHelpS.calls _ _ l0_4 t113 t114 _ ?side1 HC0_4.out A11.out).mono ?_); (case side1 => repeat (first | exact (Kd.C_below HR0_4.out (tb HB)) | (with_reducible refine Kd.C_alloc ?_ _) | (with_reducible refine Kd.C_drewN ?_ _) | (with_reducible refine Kd.C_drew ?_))); rintro e w' ⟨rfl, ⟨nd, rfl⟩⟩; refine ⟨_, rfl, ?_⟩))
 go_ret
 exact ⟨er, tb HB⟩
def laws_szThreadS.l0 : Nat → List (S171) → Int → Int → Option (Int)
 | 0, _, _, _ => none
 | k + 1, x0, x1, x5 => if x5 < (x0.length : Int) then (if 0 ≤ x5 then ((laws_szThread.f ((rd_T171 x0 x5).f0) ((rd_T171 x0 x5).f1) ((rd_T171 x0 x5).f2) ((rd_T171 x0 x5).f3) ((rd_T171 x0 x5).f4) x1).bind fun t116 => (if t116 < 0 then (some (-1)) else (laws_szThreadS.l0 k x0 t116 (wrap64 (x5 + 1))))) else (none)) else (some x1)
def laws_szThreadS.f (k : Nat) (l0 : List (S171)) (a1 : Int) : Option (Int) := if (wrap64 (a1 - (l0.length : Int))) < 0 then (some (-1)) else (laws_szThreadS.l0 k l0 (wrap64 (a1 - (l0.length : Int))) 0)
set_option maxHeartbeats 8000000 in
set_option maxRecDepth 100000 in
theorem laws_szThreadS.calls (k : Nat) (A0 : Option Addr) (c0 : Nat) (l0 : List (S171)) (a1 : Int) (r : Int) (w : World) (hr0 : Kd.C k171 w A0 l0.length l0) (hc0 : l0.length ≤ c0) (h : laws_szThreadS.f k l0 a1 = some r) :
  Calls Tryz.prog 81 #[.slice A0 l0.length c0, .int .i64 a1] w fun e w' => e = .returned (.int .i64 r) ∧ Below w.heap.size w w' := by
 have hu171 := Tryz.underlying171
 have HR0 := Aside0.mk hr0
 have HC0 := Aside0.mk hc0
 clear hr0 hc0
 have HB := Aside0.mk (Below.refl w.heap.size w)
 have H := h
 clear h
 unfold laws_szThreadS.f at H
 revert H; refine icd (fun c3b0 H => ?pos) fun c3b0 H => ?_
 case pos =>
  obtain rfl := oin H
  go_enter Tryz.func81, Tryz.ntmps81
  go_wp2
  go_ret
  exact ⟨er, tb HB⟩
 have H' := Aside0.mk H
 clear H
 go_enter Tryz.func81, Tryz.ntmps81
 go_wp2
 go_loopg [1, 5] k (fun kq v1 v5 w' => ∃ (x1_1 : Int) (x5_1 : Int), v1 = .int .i64 x1_1 ∧ v5 = .int .i64 x5_1 ∧ Aside0 (laws_szThreadS.l0 kq l0 x1_1 x5_1 = some r) ∧ Aside0 (kq ≤ k) ∧ Aside0 (Below w.heap.size w w'))
 case atStart => exact ⟨(wrap64 (a1 - (l0.length : Int))), (0), rsd, rsd, H', ⟨Nat.le_refl _⟩, ⟨tb HB⟩⟩
 case round =>
  clear H'
  try clear p2
  try clear c3
  try clear c3b0
  obtain ⟨x1_1, x5_1, rfl, rfl, HA, HK1, HB⟩ := hrel
  cases gk with
  | zero => exact absurd HA.out (by simp [laws_szThreadS.l0])
  | succ k1 =>
   have H := HA.out
   clear HA
   simp only [laws_szThreadS.l0] at H
   revert H; refine icd (fun c4b0 H => ?_) fun c4b0 H => ?neg
   case neg =>
    obtain rfl := oin H
    go_wp2
    go_ret
    exact ⟨er, tb HB⟩
   obtain ⟨c5b0, H⟩ := itd H
   obtain ⟨t116, A6, H⟩ := bn H
   try dsimp only at H
   revert H; refine icd (fun c7b0 H => ?_) fun c7b0 H => ?neg
   case neg =>
    have H' := Aside0.mk H
    clear H
    have p115 : 0 ≤ (x5_1 : Int) := od
    have q115 : x5_1 < (l0.length : Int) := od
    obtain ⟨ad115, A115_0, c115_0, A115_3, c115_3, A115_4, c115_4, e115, hx115, hl115_0, hi115_0, hl115_3, hi115_3, hl115_4, hi115_4⟩ := att171 HR0.out x5_1 p115 q115
    cases e115
    replace hx115 := ox5 HB hx115
    have HR115_0 := Aside0.mk hi115_0
    have HC115_0 := Aside0.mk hl115_0
    clear hi115_0 hl115_0
    have HR115_3 := Aside0.mk hi115_3
    have HC115_3 := Aside0.mk hl115_3
    clear hi115_3 hl115_3
    have HR115_4 := Aside0.mk hi115_4
    have HC115_4 := Aside0.mk hl115_4
    clear hi115_4 hl115_4
    replace p115 := eq_true p115
    replace q115 := eq_true q115
    go_wp2_with (first | ((with_reducible refine gf 137 rfl ?_); refine gL 23 Tryz.func137 #[.agg #[.slice A115_0 ((rd_T171 l0 x5_1).f0).length c115_0, .int .i64 ((rd_T171 l0 x5_1).f1), .bool ((rd_T171 l0 x5_1).f2), .slice A115_3 ((rd_T171 l0 x5_1).f3).length c115_3, .slice A115_4 ((rd_T171 l0 x5_1).f4).length c115_4], .int .i64 x1_1] ?_; (with_reducible refine (laws_szThread.calls _ _ ((rd_T171 l0 x5_1).f0) ((rd_T171 l0 x5_1).f1) ((rd_T171 l0 x5_1).f2) _ _ ((rd_T171 l0 x5_1).f3) _ _ ((rd_T171 l0 x5_1).f4) x1_1 t116 _ (kc HR115_0 HB) HC115_0.out (kc HR115_3 HB) HC115_3.out (kc HR115_4 HB) HC115_4.out A6.out).mono ?_); rintro e w9 ⟨rfl, hb⟩; refine ⟨_, rfl, ?_⟩; replace HB := bs HB hb; (try clear hb)))
    go_roundg k1
    case measure => have := HK1.out; omega
    case rel => exact ⟨(t116), (wrap64 (x5_1 + 1)), rsd, rsd, H', ⟨by have := HK1.out; omega⟩, ⟨tb HB⟩⟩
   obtain rfl := oin H
   have p115 : 0 ≤ (x5_1 : Int) := od
   have q115 : x5_1 < (l0.length : Int) := od
   obtain ⟨ad115, A115_0, c115_0, A115_3, c115_3, A115_4, c115_4, e115, hx115_0, hx115_1, hx115_2, hx115_3, hx115_4, hl115_0, hi115_0, hl115_3, hi115_3, hl115_4, hi115_4⟩ := at_T171 HR0.out x5_1 p115 q115
   cases e115
   replace hx115_0 := ox HB hx115_0
   replace hx115_1 := ox HB hx115_1
   replace hx115_2 := ox HB hx115_2
   replace hx115_3 := ox HB hx115_3
   replace hx115_4 := ox HB hx115_4
   have HR115_0 := Aside0.mk hi115_0
   have HC115_0 := Aside0.mk hl115_0
   clear hi115_0 hl115_0
   have HR115_3 := Aside0.mk hi115_3
   have HC115_3 := Aside0.mk hl115_3
   clear hi115_3 hl115_3
   have HR115_4 := Aside0.mk hi115_4
   have HC115_4 := Aside0.mk hl115_4
   clear hi115_4 hl115_4
   replace p115 := eq_true p115
   replace q115 := eq_true q115
   go_wp2_with (first | ((with_reducible refine gf 137 rfl ?_); refine gL 23 Tryz.func137 #[.agg #[.slice A115_0 ((rd_T171 l0 x5_1).f0).length c115_0, .int .i64 ((rd_T171 l0 x5_1).f1), .bool ((rd_T171 l0 x5_1).f2), .slice A115_3 ((rd_T171 l0 x5_1).f3).length c115_3, .slice A115_4 ((rd_T171 l0 x5_1).f4).length c115_4], .int .i64 x1_1] ?_; (with_reducible refine (laws_szThread.calls _ _ ((rd_T171 l0 x5_1).f0) ((rd_T171 l0 x5_1).f1) ((rd_T171 l0 x5_1).f2) _ _ ((rd_T171 l0 x5_1).f3) _ _ ((rd_T171 l0 x5_1).f4) x1_1 t116 _ (kc HR115_0 HB) HC115_0.out (kc HR115_3 HB) HC115_3.out (kc HR115_4 HB) HC115_4.out A6.out).mono ?_); rintro e w8 ⟨rfl, hb⟩; refine ⟨_, rfl, ?_⟩; replace HB := bs HB hb; (try clear hb)))
   go_ret
   exact ⟨er, tb HB⟩
def laws_szCall.f (a0_0 : Int) (a0_1 : Int) (a0_2 : Int) (a0_3 : Int) (a0_4 : Int) (a0_5 : Int) (a0_6 : Int) (a0_7 : Int) (l0_8 : List Int) (a1 : Int) : Option (Int) := (laws_szRes.f a0_7 l0_8 a1).bind fun t118 => (if t118 < 0 then (some (-1)) else (some t118))
set_option maxHeartbeats 8000000 in
set_option maxRecDepth 100000 in
theorem laws_szCall.calls (a0_0 : Int) (a0_1 : Int) (a0_2 : Int) (a0_3 : Int) (a0_4 : Int) (a0_5 : Int) (a0_6 : Int) (a0_7 : Int) (A0_8 : Option Addr) (c0_8 : Nat) (l0_8 : List Int) (a1 : Int) (r : Int) (w : World) (hr0_8 : Kd.C (Kd.int .i64) w A0_8 l0_8.length l0_8) (hc0_8 : l0_8.length ≤ c0_8) (h : laws_szCall.f a0_0 a0_1 a0_2 a0_3 a0_4 a0_5 a0_6 a0_7 l0_8 a1 = some r) :
  Calls Tryz.prog 138 #[.agg #[.int .i64 a0_0, .int .i64 a0_1, .int .i64 a0_2, .int .i64 a0_3, .int .i64 a0_4, .int .i64 a0_5, .int .i64 a0_6, .int .i64 a0_7, .slice A0_8 l0_8.length c0_8], .int .i64 a1] w fun e w' => e = .returned (.int .i64 r) ∧ Below w.heap.size w w' := by
 have hu176 := Tryz.underlying176
 have hu174 := Tryz.underlying174
 have HR0_8 := Aside0.mk hr0_8
 have HC0_8 := Aside0.mk hc0_8
 clear hr0_8 hc0_8
 have HB := Aside0.mk (Below.refl w.heap.size w)
 have H := h
 clear h
 unfold laws_szCall.f at H
 obtain ⟨t118, A3, H⟩ := bn H
 try dsimp only at H
 revert H; refine icd (fun c4b0 H => ?pos) fun c4b0 H => ?_
 case pos =>
  obtain rfl := oin H
  go_enter Tryz.func138, Tryz.ntmps138
  go_wp2_with (first | ((with_reducible refine gq 2 rfl ?_); refine bx0 HB (N := 2) (t := 176) ?_; clear HB; intro gb117 w5 BK117 GE117 HB; have hz6 := cs9_ BK117) | ((with_reducible refine gf 173 rfl ?_); refine gL 8 Tryz.func173 #[.agg #[.int .i64 a0_7, .slice A0_8 l0_8.length c0_8], .int .i64 a1] ?_; (with_reducible refine (laws_szRes.calls a0_7 _ _ l0_8 a1 t118 _ (kc HR0_8 HB) HC0_8.out A3.out).mono ?_); rintro e w7 ⟨rfl, hb⟩; refine ⟨_, rfl, ?_⟩; replace BK117 := bb BK117 hb; replace HB := bs HB hb; (try clear hb)))
  go_ret
  exact ⟨er, tb HB⟩
 obtain rfl := oin H
 go_enter Tryz.func138, Tryz.ntmps138
 go_wp2_with (first | ((with_reducible refine gq 2 rfl ?_); refine bx0 HB (N := 2) (t := 176) ?_; clear HB; intro gb117 w8 BK117 GE117 HB; have hz9 := cs9_ BK117) | ((with_reducible refine gf 173 rfl ?_); refine gL 8 Tryz.func173 #[.agg #[.int .i64 a0_7, .slice A0_8 l0_8.length c0_8], .int .i64 a1] ?_; (with_reducible refine (laws_szRes.calls a0_7 _ _ l0_8 a1 t118 _ (kc HR0_8 HB) HC0_8.out A3.out).mono ?_); rintro e w10 ⟨rfl, hb⟩; refine ⟨_, rfl, ?_⟩; replace BK117 := bb BK117 hb; replace HB := bs HB hb; (try clear hb)))
 go_ret
 exact ⟨er, tb HB⟩
def laws_szCallS.l0 : Nat → List (S176) → Int → Int → Option (Int)
 | 0, _, _, _ => none
 | k + 1, x0, x1, x5 => if x5 < (x0.length : Int) then (if 0 ≤ x5 then ((laws_szCall.f ((rd_T176 x0 x5).f0) ((rd_T176 x0 x5).f1.f0) ((rd_T176 x0 x5).f1.f1) ((rd_T176 x0 x5).f1.f2) ((rd_T176 x0 x5).f2) ((rd_T176 x0 x5).f3) ((rd_T176 x0 x5).f4) ((rd_T176 x0 x5).f5.f0) ((rd_T176 x0 x5).f5.f1) x1).bind fun t120 => (if t120 < 0 then (some (-1)) else (laws_szCallS.l0 k x0 t120 (wrap64 (x5 + 1))))) else (none)) else (some x1)
def laws_szCallS.f (k : Nat) (l0 : List (S176)) (a1 : Int) : Option (Int) := if (wrap64 (a1 - (l0.length : Int))) < 0 then (some (-1)) else (laws_szCallS.l0 k l0 (wrap64 (a1 - (l0.length : Int))) 0)
set_option maxHeartbeats 8000000 in
set_option maxRecDepth 100000 in
theorem laws_szCallS.calls (k : Nat) (A0 : Option Addr) (c0 : Nat) (l0 : List (S176)) (a1 : Int) (r : Int) (w : World) (hr0 : Kd.C k176 w A0 l0.length l0) (hc0 : l0.length ≤ c0) (h : laws_szCallS.f k l0 a1 = some r) :
  Calls Tryz.prog 82 #[.slice A0 l0.length c0, .int .i64 a1] w fun e w' => e = .returned (.int .i64 r) ∧ Below w.heap.size w w' := by
 have hu176 := Tryz.underlying176
 have HR0 := Aside0.mk hr0
 have HC0 := Aside0.mk hc0
 clear hr0 hc0
 have HB := Aside0.mk (Below.refl w.heap.size w)
 have H := h
 clear h
 unfold laws_szCallS.f at H
 revert H; refine icd (fun c3b0 H => ?pos) fun c3b0 H => ?_
 case pos =>
  obtain rfl := oin H
  go_enter Tryz.func82, Tryz.ntmps82
  go_wp2
  go_ret
  exact ⟨er, tb HB⟩
 have H' := Aside0.mk H
 clear H
 go_enter Tryz.func82, Tryz.ntmps82
 go_wp2
 go_loopg [1, 5] k (fun kq v1 v5 w' => ∃ (x1_1 : Int) (x5_1 : Int), v1 = .int .i64 x1_1 ∧ v5 = .int .i64 x5_1 ∧ Aside0 (laws_szCallS.l0 kq l0 x1_1 x5_1 = some r) ∧ Aside0 (kq ≤ k) ∧ Aside0 (Below w.heap.size w w'))
 case atStart => exact ⟨(wrap64 (a1 - (l0.length : Int))), (0), rsd, rsd, H', ⟨Nat.le_refl _⟩, ⟨tb HB⟩⟩
 case round =>
  clear H'
  try clear p2
  try clear c3
  try clear c3b0
  obtain ⟨x1_1, x5_1, rfl, rfl, HA, HK1, HB⟩ := hrel
  cases gk with
  | zero => exact absurd HA.out (by simp [laws_szCallS.l0])
  | succ k1 =>
   have H := HA.out
   clear HA
   simp only [laws_szCallS.l0] at H
   revert H; refine icd (fun c4b0 H => ?_) fun c4b0 H => ?neg
   case neg =>
    obtain rfl := oin H
    go_wp2
    go_ret
    exact ⟨er, tb HB⟩
   obtain ⟨c5b0, H⟩ := itd H
   obtain ⟨t120, A6, H⟩ := bn H
   try dsimp only at H
   revert H; refine icd (fun c7b0 H => ?_) fun c7b0 H => ?neg
   case neg =>
    have H' := Aside0.mk H
    clear H
    have p119 : 0 ≤ (x5_1 : Int) := od
    have q119 : x5_1 < (l0.length : Int) := od
    obtain ⟨ad119, A119_8, c119_8, e119, hx119, hl119_8, hi119_8⟩ := att176 HR0.out x5_1 p119 q119
    cases e119
    replace hx119 := ox9 HB hx119
    have HR119_8 := Aside0.mk hi119_8
    have HC119_8 := Aside0.mk hl119_8
    clear hi119_8 hl119_8
    replace p119 := eq_true p119
    replace q119 := eq_true q119
    go_wp2_with (first | ((with_reducible refine gf 138 rfl ?_); refine gL 23 Tryz.func138 #[.agg #[.int .i64 ((rd_T176 l0 x5_1).f0), .int .i64 ((rd_T176 l0 x5_1).f1.f0), .int .i64 ((rd_T176 l0 x5_1).f1.f1), .int .i64 ((rd_T176 l0 x5_1).f1.f2), .int .i64 ((rd_T176 l0 x5_1).f2), .int .i64 ((rd_T176 l0 x5_1).f3), .int .i64 ((rd_T176 l0 x5_1).f4), .int .i64 ((rd_T176 l0 x5_1).f5.f0), .slice A119_8 ((rd_T176 l0 x5_1).f5.f1).length c119_8], .int .i64 x1_1] ?_; (with_reducible refine (laws_szCall.calls ((rd_T176 l0 x5_1).f0) ((rd_T176 l0 x5_1).f1.f0) ((rd_T176 l0 x5_1).f1.f1) ((rd_T176 l0 x5_1).f1.f2) ((rd_T176 l0 x5_1).f2) ((rd_T176 l0 x5_1).f3) ((rd_T176 l0 x5_1).f4) ((rd_T176 l0 x5_1).f5.f0) _ _ ((rd_T176 l0 x5_1).f5.f1) x1_1 t120 _ (kc HR119_8 HB) HC119_8.out A6.out).mono ?_); rintro e w9 ⟨rfl, hb⟩; refine ⟨_, rfl, ?_⟩; replace HB := bs HB hb; (try clear hb)))
    go_roundg k1
    case measure => have := HK1.out; omega
    case rel => exact ⟨(t120), (wrap64 (x5_1 + 1)), rsd, rsd, H', ⟨by have := HK1.out; omega⟩, ⟨tb HB⟩⟩
   obtain rfl := oin H
   have p119 : 0 ≤ (x5_1 : Int) := od
   have q119 : x5_1 < (l0.length : Int) := od
   obtain ⟨ad119, A119_8, c119_8, e119, hx119_0, hx119_1, hx119_2, hx119_3, hx119_4, hx119_5, hx119_6, hx119_7, hx119_8, hl119_8, hi119_8⟩ := at_T176 HR0.out x5_1 p119 q119
   cases e119
   replace hx119_0 := ox HB hx119_0
   replace hx119_1 := ox HB hx119_1
   replace hx119_2 := ox HB hx119_2
   replace hx119_3 := ox HB hx119_3
   replace hx119_4 := ox HB hx119_4
   replace hx119_5 := ox HB hx119_5
   replace hx119_6 := ox HB hx119_6
   replace hx119_7 := ox HB hx119_7
   replace hx119_8 := ox HB hx119_8
   have HR119_8 := Aside0.mk hi119_8
   have HC119_8 := Aside0.mk hl119_8
   clear hi119_8 hl119_8
   replace p119 := eq_true p119
   replace q119 := eq_true q119
   go_wp2_with (first | ((with_reducible refine gf 138 rfl ?_); refine gL 23 Tryz.func138 #[.agg #[.int .i64 ((rd_T176 l0 x5_1).f0), .int .i64 ((rd_T176 l0 x5_1).f1.f0), .int .i64 ((rd_T176 l0 x5_1).f1.f1), .int .i64 ((rd_T176 l0 x5_1).f1.f2), .int .i64 ((rd_T176 l0 x5_1).f2), .int .i64 ((rd_T176 l0 x5_1).f3), .int .i64 ((rd_T176 l0 x5_1).f4), .int .i64 ((rd_T176 l0 x5_1).f5.f0), .slice A119_8 ((rd_T176 l0 x5_1).f5.f1).length c119_8], .int .i64 x1_1] ?_; (with_reducible refine (laws_szCall.calls ((rd_T176 l0 x5_1).f0) ((rd_T176 l0 x5_1).f1.f0) ((rd_T176 l0 x5_1).f1.f1) ((rd_T176 l0 x5_1).f1.f2) ((rd_T176 l0 x5_1).f2) ((rd_T176 l0 x5_1).f3) ((rd_T176 l0 x5_1).f4) ((rd_T176 l0 x5_1).f5.f0) _ _ ((rd_T176 l0 x5_1).f5.f1) x1_1 t120 _ (kc HR119_8 HB) HC119_8.out A6.out).mono ?_); rintro e w8 ⟨rfl, hb⟩; refine ⟨_, rfl, ?_⟩; replace HB := bs HB hb; (try clear hb)))
   go_ret
   exact ⟨er, tb HB⟩
def laws_szRows.f (l0_0 : List Int) (a0_1 : Int) (a1 : Int) : Option (Int) := (laws_szIntS.f l0_0 a1).bind fun t122 => (if t122 < 0 then (some (-1)) else (some t122))
set_option maxHeartbeats 8000000 in
set_option maxRecDepth 100000 in
theorem laws_szRows.calls (A0_0 : Option Addr) (c0_0 : Nat) (l0_0 : List Int) (a0_1 : Int) (a1 : Int) (r : Int) (w : World) (hr0_0 : Kd.C (Kd.int .i64) w A0_0 l0_0.length l0_0) (hc0_0 : l0_0.length ≤ c0_0) (h : laws_szRows.f l0_0 a0_1 a1 = some r) :
  Calls Tryz.prog 84 #[.agg #[.slice A0_0 l0_0.length c0_0, .int .i64 a0_1], .int .i64 a1] w fun e w' => e = .returned (.int .i64 r) ∧ Below w.heap.size w w' := by
 have hu66 := Tryz.underlying66
 have HR0_0 := Aside0.mk hr0_0
 have HC0_0 := Aside0.mk hc0_0
 clear hr0_0 hc0_0
 have HB := Aside0.mk (Below.refl w.heap.size w)
 have H := h
 clear h
 unfold laws_szRows.f at H
 obtain ⟨t122, A3, H⟩ := bn H
 try dsimp only at H
 revert H; refine icd (fun c4b0 H => ?pos) fun c4b0 H => ?_
 case pos =>
  obtain rfl := oin H
  go_enter Tryz.func84, Tryz.ntmps84
  go_wp2_with (first | ((with_reducible refine gq 2 rfl ?_); refine bx0 HB (N := 2) (t := 66) ?_; clear HB; intro gb121 w5 BK121 GE121 HB; have hz6 := cs2_ BK121) | ((with_reducible refine gf 83 rfl ?_); refine gL 8 Tryz.func83 #[.slice A0_0 l0_0.length c0_0, .int .i64 a1] ?_; (with_reducible refine (laws_szIntS.calls _ _ l0_0 a1 t122 _ (kc HR0_0 HB) HC0_0.out A3.out).mono ?_); rintro e w' ⟨rfl, ⟨nd, rfl⟩⟩; refine ⟨_, rfl, ?_⟩))
  go_ret
  exact ⟨er, tb HB⟩
 obtain rfl := oin H
 go_enter Tryz.func84, Tryz.ntmps84
 go_wp2_with (first | ((with_reducible refine gq 2 rfl ?_); refine bx0 HB (N := 2) (t := 66) ?_; clear HB; intro gb121 w7 BK121 GE121 HB; have hz8 := cs2_ BK121) | ((with_reducible refine gf 83 rfl ?_); refine gL 8 Tryz.func83 #[.slice A0_0 l0_0.length c0_0, .int .i64 a1] ?_; (with_reducible refine (laws_szIntS.calls _ _ l0_0 a1 t122 _ (kc HR0_0 HB) HC0_0.out A3.out).mono ?_); rintro e w' ⟨rfl, ⟨nd, rfl⟩⟩; refine ⟨_, rfl, ?_⟩))
 go_ret
 exact ⟨er, tb HB⟩
def laws_szMachine.f (k : Nat) (l0_0 : List (S207)) (l0_1 : List (S201)) (l0_2 : List (S171)) (a0_3 : Int) (l0_4 : List (S176)) (l0_5 : List Int) (l0_6 : List Int) (a0_7 : Int) (a1 : Int) : Option (Int) := (laws_szMem.f k l0_0 l0_1 a1).bind fun t124 => (if t124 < 0 then (some (-1)) else ((laws_szThreadS.f k l0_2 t124).bind fun t125 => (if t125 < 0 then (some (-1)) else ((laws_szCallS.f k l0_4 t125).bind fun t126 => (if t126 < 0 then (some (-1)) else ((laws_szIntS.f l0_5 t126).bind fun t127 => (if t127 < 0 then (some (-1)) else ((laws_szRows.f l0_6 a0_7 t127).bind fun t128 => (if t128 < 0 then (some (-1)) else (some t128))))))))))
set_option maxHeartbeats 8000000 in
set_option maxRecDepth 100000 in
theorem laws_szMachine.calls (k : Nat) (A0_0 : Option Addr) (c0_0 : Nat) (l0_0 : List (S207)) (A0_1 : Option Addr) (c0_1 : Nat) (l0_1 : List (S201)) (A0_2 : Option Addr) (c0_2 : Nat) (l0_2 : List (S171)) (a0_3 : Int) (A0_4 : Option Addr) (c0_4 : Nat) (l0_4 : List (S176)) (A0_5 : Option Addr) (c0_5 : Nat) (l0_5 : List Int) (A0_6 : Option Addr) (c0_6 : Nat) (l0_6 : List Int) (a0_7 : Int) (a1 : Int) (r : Int) (w : World) (hr0_0 : Kd.C k207 w A0_0 l0_0.length l0_0) (hc0_0 : l0_0.length ≤ c0_0) (hr0_1 : Kd.C k201 w A0_1 l0_1.length l0_1) (hc0_1 : l0_1.length ≤ c0_1) (hr0_2 : Kd.C k171 w A0_2 l0_2.length l0_2) (hc0_2 : l0_2.length ≤ c0_2) (hr0_4 : Kd.C k176 w A0_4 l0_4.length l0_4) (hc0_4 : l0_4.length ≤ c0_4) (hr0_5 : Kd.C (Kd.int .i64) w A0_5 l0_5.length l0_5) (hc0_5 : l0_5.length ≤ c0_5) (hr0_6 : Kd.C (Kd.int .i64) w A0_6 l0_6.length l0_6) (hc0_6 : l0_6.length ≤ c0_6) (h : laws_szMachine.f k l0_0 l0_1 l0_2 a0_3 l0_4 l0_5 l0_6 a0_7 a1 = some r) :
  Calls Tryz.prog 24 #[.agg #[.slice A0_0 l0_0.length c0_0, .slice A0_1 l0_1.length c0_1, .slice A0_2 l0_2.length c0_2, .int .i64 a0_3, .slice A0_4 l0_4.length c0_4, .slice A0_5 l0_5.length c0_5, .slice A0_6 l0_6.length c0_6, .int .i64 a0_7], .int .i64 a1] w fun e w' => e = .returned (.int .i64 r) ∧ Below w.heap.size w w' := by
 have hu68 := Tryz.underlying68
 have hu62 := Tryz.underlying62
 have hu66 := Tryz.underlying66
 have HR0_0 := Aside0.mk hr0_0
 have HC0_0 := Aside0.mk hc0_0
 clear hr0_0 hc0_0
 have HR0_1 := Aside0.mk hr0_1
 have HC0_1 := Aside0.mk hc0_1
 clear hr0_1 hc0_1
 have HR0_2 := Aside0.mk hr0_2
 have HC0_2 := Aside0.mk hc0_2
 clear hr0_2 hc0_2
 have HR0_4 := Aside0.mk hr0_4
 have HC0_4 := Aside0.mk hc0_4
 clear hr0_4 hc0_4
 have HR0_5 := Aside0.mk hr0_5
 have HC0_5 := Aside0.mk hc0_5
 clear hr0_5 hc0_5
 have HR0_6 := Aside0.mk hr0_6
 have HC0_6 := Aside0.mk hc0_6
 clear hr0_6 hc0_6
 have HB := Aside0.mk (Below.refl w.heap.size w)
 have H := h
 clear h
 unfold laws_szMachine.f at H
 obtain ⟨t124, A3, H⟩ := bn H
 try dsimp only at H
 revert H; refine icd (fun c4b0 H => ?pos) fun c4b0 H => ?_
 case pos =>
  obtain rfl := oin H
  go_enter Tryz.func24, Tryz.ntmps24
  go_wp2_with (first | ((with_reducible refine gq 2 rfl ?_); refine bx0 HB (N := 2) (t := 68) ?_; clear HB; intro gb123 w5 BK123 GE123 HB; have hz6 := cs8_ BK123) | ((with_reducible refine gf 80 rfl ?_); refine gL 8 Tryz.func80 #[.agg #[.slice A0_0 l0_0.length c0_0, .slice A0_1 l0_1.length c0_1], .int .i64 a1] ?_; (with_reducible refine (laws_szMem.calls k _ _ l0_0 _ _ l0_1 a1 t124 _ (kc HR0_0 HB) HC0_0.out (kc HR0_1 HB) HC0_1.out A3.out).mono ?_); rintro e w7 ⟨rfl, hb⟩; refine ⟨_, rfl, ?_⟩; replace BK123 := bb BK123 hb; replace HB := bs HB hb; (try clear hb)))
  go_ret
  exact ⟨er, tb HB⟩
 obtain ⟨t125, A8, H⟩ := bn H
 try dsimp only at H
 revert H; refine icd (fun c9b0 H => ?pos) fun c9b0 H => ?_
 case pos =>
  obtain rfl := oin H
  go_enter Tryz.func24, Tryz.ntmps24
  go_wp2_with (first | ((with_reducible refine gq 2 rfl ?_); refine bx0 HB (N := 2) (t := 68) ?_; clear HB; intro gb123 w10 BK123 GE123 HB; have hz11 := cs8_ BK123) | ((with_reducible refine gf 80 rfl ?_); refine gL 8 Tryz.func80 #[.agg #[.slice A0_0 l0_0.length c0_0, .slice A0_1 l0_1.length c0_1], .int .i64 a1] ?_; (with_reducible refine (laws_szMem.calls k _ _ l0_0 _ _ l0_1 a1 t124 _ (kc HR0_0 HB) HC0_0.out (kc HR0_1 HB) HC0_1.out A3.out).mono ?_); rintro e w12 ⟨rfl, hb⟩; refine ⟨_, rfl, ?_⟩; replace BK123 := bb BK123 hb; replace HB := bs HB hb; (try clear hb); have hz13 := cs8_ BK123) | ((with_reducible refine gf 81 rfl ?_); refine gL 14 Tryz.func81 #[.slice A0_2 l0_2.length c0_2, .int .i64 t124] ?_; (with_reducible refine (laws_szThreadS.calls k _ _ l0_2 t124 t125 _ (kc HR0_2 HB) HC0_2.out A8.out).mono ?_); rintro e w14 ⟨rfl, hb⟩; refine ⟨_, rfl, ?_⟩; replace BK123 := bb BK123 hb; replace HB := bs HB hb; (try clear hb)))
  go_ret
  exact ⟨er, tb HB⟩
 obtain ⟨t126, A15, H⟩ := bn H
 try dsimp only at H
 revert H; refine icd (fun c16b0 H => ?pos) fun c16b0 H => ?_
 case pos =>
  obtain rfl := oin H
  go_enter Tryz.func24, Tryz.ntmps24
  go_wp2_with (first | ((with_reducible refine gq 2 rfl ?_); refine bx0 HB (N := 2) (t := 68) ?_; clear HB; intro gb123 w17 BK123 GE123 HB; have hz18 := cs8_ BK123) | ((with_reducible refine gf 80 rfl ?_); refine gL 8 Tryz.func80 #[.agg #[.slice A0_0 l0_0.length c0_0, .slice A0_1 l0_1.length c0_1], .int .i64 a1] ?_; (with_reducible refine (laws_szMem.calls k _ _ l0_0 _ _ l0_1 a1 t124 _ (kc HR0_0 HB) HC0_0.out (kc HR0_1 HB) HC0_1.out A3.out).mono ?_); rintro e w19 ⟨rfl, hb⟩; refine ⟨_, rfl, ?_⟩; replace BK123 := bb BK123 hb; replace HB := bs HB hb; (try clear hb); have hz20 := cs8_ BK123) | ((with_reducible refine gf 81 rfl ?_); refine gL 14 Tryz.func81 #[.slice A0_2 l0_2.length c0_2, .int .i64 t124] ?_; (with_reducible refine (laws_szThreadS.calls k _ _ l0_2 t124 t125 _ (kc HR0_2 HB) HC0_2.out A8.out).mono ?_); rintro e w21 ⟨rfl, hb⟩; refine ⟨_, rfl, ?_⟩; replace BK123 := bb BK123 hb; replace HB := bs HB hb; (try clear hb); have hz22 := cs8_ BK123) | ((with_reducible refine gf 82 rfl ?_); refine gL 20 Tryz.func82 #[.slice A0_4 l0_4.length c0_4, .int .i64 t125] ?_; (with_reducible refine (laws_szCallS.calls k _ _ l0_4 t125 t126 _ (kc HR0_4 HB) HC0_4.out A15.out).mono ?_); rintro e w23 ⟨rfl, hb⟩; refine ⟨_, rfl, ?_⟩; replace BK123 := bb BK123 hb; replace HB := bs HB hb; (try clear hb)))
  go_ret
  exact ⟨er, tb HB⟩
 obtain ⟨t127, A24, H⟩ := bn H
 try dsimp only at H
 revert H; refine icd (fun c25b0 H => ?pos) fun c25b0 H => ?_
 case pos =>
  obtain rfl := oin H
  go_enter Tryz.func24, Tryz.ntmps24
  go_wp2_with (first | ((with_reducible refine gq 2 rfl ?_); refine bx0 HB (N := 2) (t := 68) ?_; clear HB; intro gb123 w26 BK123 GE123 HB; have hz27 := cs8_ BK123) | ((with_reducible refine gf 80 rfl ?_); refine gL 8 Tryz.func80 #[.agg #[.slice A0_0 l0_0.length c0_0, .slice A0_1 l0_1.length c0_1], .int .i64 a1] ?_; (with_reducible refine (laws_szMem.calls k _ _ l0_0 _ _ l0_1 a1 t124 _ (kc HR0_0 HB) HC0_0.out (kc HR0_1 HB) HC0_1.out A3.out).mono ?_); rintro e w28 ⟨rfl, hb⟩; refine ⟨_, rfl, ?_⟩; replace BK123 := bb BK123 hb; replace HB := bs HB hb; (try clear hb); have hz29 := cs8_ BK123) | ((with_reducible refine gf 81 rfl ?_); refine gL 14 Tryz.func81 #[.slice A0_2 l0_2.length c0_2, .int .i64 t124] ?_; (with_reducible refine (laws_szThreadS.calls k _ _ l0_2 t124 t125 _ (kc HR0_2 HB) HC0_2.out A8.out).mono ?_); rintro e w30 ⟨rfl, hb⟩; refine ⟨_, rfl, ?_⟩; replace BK123 := bb BK123 hb; replace HB := bs HB hb; (try clear hb); have hz31 := cs8_ BK123) | ((with_reducible refine gf 82 rfl ?_); refine gL 20 Tryz.func82 #[.slice A0_4 l0_4.length c0_4, .int .i64 t125] ?_; (with_reducible refine (laws_szCallS.calls k _ _ l0_4 t125 t126 _ (kc HR0_4 HB) HC0_4.out A15.out).mono ?_); rintro e w32 ⟨rfl, hb⟩; refine ⟨_, rfl, ?_⟩; replace BK123 := bb BK123 hb; replace HB := bs HB hb; (try clear hb); have hz33 := cs8_ BK123) | ((with_reducible refine gf 83 rfl ?_); refine gL 26 Tryz.func83 #[.slice A0_5 l0_5.length c0_5, .int .i64 t126] ?_; (with_reducible refine (laws_szIntS.calls _ _ l0_5 t126 t127 _ (kc HR0_5 HB) HC0_5.out A24.out).mono ?_); rintro e w' ⟨rfl, ⟨nd, rfl⟩⟩; refine ⟨_, rfl, ?_⟩))
  go_ret
  exact ⟨er, tb HB⟩
 obtain ⟨t128, A34, H⟩ := bn H
 try dsimp only at H
 revert H; refine icd (fun c35b0 H => ?pos) fun c35b0 H => ?_
 case pos =>
  obtain rfl := oin H
  go_enter Tryz.func24, Tryz.ntmps24
  go_wp2_with (first | ((with_reducible refine gq 2 rfl ?_); refine bx0 HB (N := 2) (t := 68) ?_; clear HB; intro gb123 w36 BK123 GE123 HB; have hz37 := cs8_ BK123) | ((with_reducible refine gf 80 rfl ?_); refine gL 8 Tryz.func80 #[.agg #[.slice A0_0 l0_0.length c0_0, .slice A0_1 l0_1.length c0_1], .int .i64 a1] ?_; (with_reducible refine (laws_szMem.calls k _ _ l0_0 _ _ l0_1 a1 t124 _ (kc HR0_0 HB) HC0_0.out (kc HR0_1 HB) HC0_1.out A3.out).mono ?_); rintro e w38 ⟨rfl, hb⟩; refine ⟨_, rfl, ?_⟩; replace BK123 := bb BK123 hb; replace HB := bs HB hb; (try clear hb); have hz39 := cs8_ BK123) | ((with_reducible refine gf 81 rfl ?_); refine gL 14 Tryz.func81 #[.slice A0_2 l0_2.length c0_2, .int .i64 t124] ?_; (with_reducible refine (laws_szThreadS.calls k _ _ l0_2 t124 t125 _ (kc HR0_2 HB) HC0_2.out A8.out).mono ?_); rintro e w40 ⟨rfl, hb⟩; refine ⟨_, rfl, ?_⟩; replace BK123 := bb BK123 hb; replace HB := bs HB hb; (try clear hb); have hz41 := cs8_ BK123) | ((with_reducible refine gf 82 rfl ?_); refine gL 20 Tryz.func82 #[.slice A0_4 l0_4.length c0_4, .int .i64 t125] ?_; (with_reducible refine (laws_szCallS.calls k _ _ l0_4 t125 t126 _ (kc HR0_4 HB) HC0_4.out A15.out).mono ?_); rintro e w42 ⟨rfl, hb⟩; refine ⟨_, rfl, ?_⟩; replace BK123 := bb BK123 hb; replace HB := bs HB hb; (try clear hb); have hz43 := cs8_ BK123) | ((with_reducible refine gf 83 rfl ?_); refine gL 26 Tryz.func83 #[.slice A0_5 l0_5.length c0_5, .int .i64 t126] ?_; (with_reducible refine (laws_szIntS.calls _ _ l0_5 t126 t127 _ (kc HR0_5 HB) HC0_5.out A24.out).mono ?_); rintro e w' ⟨rfl, ⟨nd, rfl⟩⟩; refine ⟨_, rfl, ?_⟩) | ((with_reducible refine gf 84 rfl ?_); refine gL 32 Tryz.func84 #[.agg #[.slice A0_6 l0_6.length c0_6, .int .i64 a0_7], .int .i64 t127] ?_; (with_reducible refine (laws_szRows.calls _ _ l0_6 a0_7 t127 t128 _ ?side1 HC0_6.out A34.out).mono ?_); (case side1 => repeat (first | exact (Kd.C_below HR0_6.out (tb HB)) | (with_reducible refine Kd.C_alloc ?_ _) | (with_reducible refine Kd.C_drewN ?_ _) | (with_reducible refine Kd.C_drew ?_))); rintro e w44 ⟨rfl, hb⟩; refine ⟨_, rfl, ?_⟩; replace BK123 := bb BK123 hb; replace HB := bs HB hb; (try clear hb)))
  go_ret
  exact ⟨er, tb HB⟩
 obtain rfl := oin H
 go_enter Tryz.func24, Tryz.ntmps24
 go_wp2_with (first | ((with_reducible refine gq 2 rfl ?_); refine bx0 HB (N := 2) (t := 68) ?_; clear HB; intro gb123 w45 BK123 GE123 HB; have hz46 := cs8_ BK123) | ((with_reducible refine gf 80 rfl ?_); refine gL 8 Tryz.func80 #[.agg #[.slice A0_0 l0_0.length c0_0, .slice A0_1 l0_1.length c0_1], .int .i64 a1] ?_; (with_reducible refine (laws_szMem.calls k _ _ l0_0 _ _ l0_1 a1 t124 _ (kc HR0_0 HB) HC0_0.out (kc HR0_1 HB) HC0_1.out A3.out).mono ?_); rintro e w47 ⟨rfl, hb⟩; refine ⟨_, rfl, ?_⟩; replace BK123 := bb BK123 hb; replace HB := bs HB hb; (try clear hb); have hz48 := cs8_ BK123) | ((with_reducible refine gf 81 rfl ?_); refine gL 14 Tryz.func81 #[.slice A0_2 l0_2.length c0_2, .int .i64 t124] ?_; (with_reducible refine (laws_szThreadS.calls k _ _ l0_2 t124 t125 _ (kc HR0_2 HB) HC0_2.out A8.out).mono ?_); rintro e w49 ⟨rfl, hb⟩; refine ⟨_, rfl, ?_⟩; replace BK123 := bb BK123 hb; replace HB := bs HB hb; (try clear hb); have hz50 := cs8_ BK123) | ((with_reducible refine gf 82 rfl ?_); refine gL 20 Tryz.func82 #[.slice A0_4 l0_4.length c0_4, .int .i64 t125] ?_; (with_reducible refine (laws_szCallS.calls k _ _ l0_4 t125 t126 _ (kc HR0_4 HB) HC0_4.out A15.out).mono ?_); rintro e w51 ⟨rfl, hb⟩; refine ⟨_, rfl, ?_⟩; replace BK123 := bb BK123 hb; replace HB := bs HB hb; (try clear hb); have hz52 := cs8_ BK123) | ((with_reducible refine gf 83 rfl ?_); refine gL 26 Tryz.func83 #[.slice A0_5 l0_5.length c0_5, .int .i64 t126] ?_; (with_reducible refine (laws_szIntS.calls _ _ l0_5 t126 t127 _ (kc HR0_5 HB) HC0_5.out A24.out).mono ?_); rintro e w' ⟨rfl, ⟨nd, rfl⟩⟩; refine ⟨_, rfl, ?_⟩) | ((with_reducible refine gf 84 rfl ?_); refine gL 32 Tryz.func84 #[.agg #[.slice A0_6 l0_6.length c0_6, .int .i64 a0_7], .int .i64 t127] ?_; (with_reducible refine (laws_szRows.calls _ _ l0_6 a0_7 t127 t128 _ ?side1 HC0_6.out A34.out).mono ?_); (case side1 => repeat (first | exact (Kd.C_below HR0_6.out (tb HB)) | (with_reducible refine Kd.C_alloc ?_ _) | (with_reducible refine Kd.C_drewN ?_ _) | (with_reducible refine Kd.C_drew ?_))); rintro e w53 ⟨rfl, hb⟩; refine ⟨_, rfl, ?_⟩; replace BK123 := bb BK123 hb; replace HB := bs HB hb; (try clear hb)))
 go_ret
 exact ⟨er, tb HB⟩
def spec_l1In.f (a0 : Int) (a1 : Int) (a2 : Int) : Option (Bool) := if a0 ≥ a1 then (some (decide (a0 ≤ a2))) else (some false)
set_option maxHeartbeats 8000000 in
set_option maxRecDepth 100000 in
theorem spec_l1In.calls (a0 : Int) (a1 : Int) (a2 : Int) (r : Bool) (w : World) (h : spec_l1In.f a0 a1 a2 = some r) :
  Calls Tryz.prog 70 #[.int .i64 a0, .int .i64 a1, .int .i64 a2] w fun e w' => e = .returned (.bool r) ∧ Drawn0 w w' := by
 have H := h
 clear h
 unfold spec_l1In.f at H
 revert H; refine icd (fun c4b0 H => ?pos) fun c4b0 H => ?_
 case pos =>
  obtain rfl := oin H
  go_enter Tryz.func70, Tryz.ntmps70
  go_wp2
  go_ret
  exact ⟨rsd, by repeat (first | exact Drawn0.refl _ | apply Drawn0.step)⟩
 obtain rfl := oin H
 go_enter Tryz.func70, Tryz.ntmps70
 go_wp2
 go_ret
 exact ⟨rsd, by repeat (first | exact Drawn0.refl _ | apply Drawn0.step)⟩
def spec_ValOk.f (a0 : Int) : Option (Bool) := (spec_l1In.f a0 1 6).bind fun t129 => (some t129)
set_option maxHeartbeats 8000000 in
set_option maxRecDepth 100000 in
theorem spec_ValOk.calls (a0 : Int) (r : Bool) (w : World) (h : spec_ValOk.f a0 = some r) :
  Calls Tryz.prog 139 #[.int .i64 a0] w fun e w' => e = .returned (.bool r) ∧ Drawn0 w w' := by
 have H := h
 clear h
 unfold spec_ValOk.f at H
 obtain ⟨t129, A2, H⟩ := bn H
 try dsimp only at H
 obtain rfl := oin H
 go_enter Tryz.func139, Tryz.ntmps139
 go_wp2_with (first | ((with_reducible refine gf 70 rfl ?_); refine gL 4 Tryz.func70 #[.int .i64 a0, .int .i64 1, .int .i64 6] ?_; (with_reducible refine (spec_l1In.calls a0 1 6 t129 _ A2.out).mono ?_); rintro e w' ⟨rfl, ⟨nd, rfl⟩⟩; refine ⟨_, rfl, ?_⟩))
 go_ret
 exact ⟨rsd, by repeat (first | exact Drawn0.refl _ | apply Drawn0.step)⟩
def spec_l4Key.f (a0 : Int) : Option (Bool) := (spec_l1In.f a0 1 4).bind fun t130 => (some t130)
set_option maxHeartbeats 8000000 in
set_option maxRecDepth 100000 in
theorem spec_l4Key.calls (a0 : Int) (r : Bool) (w : World) (h : spec_l4Key.f a0 = some r) :
  Calls Tryz.prog 164 #[.int .i64 a0] w fun e w' => e = .returned (.bool r) ∧ Drawn0 w w' := by
 have H := h
 clear h
 unfold spec_l4Key.f at H
 obtain ⟨t130, A2, H⟩ := bn H
 try dsimp only at H
 obtain rfl := oin H
 go_enter Tryz.func164, Tryz.ntmps164
 go_wp2_with (first | ((with_reducible refine gf 70 rfl ?_); refine gL 4 Tryz.func70 #[.int .i64 a0, .int .i64 1, .int .i64 4] ?_; (with_reducible refine (spec_l1In.calls a0 1 4 t130 _ A2.out).mono ?_); rintro e w' ⟨rfl, ⟨nd, rfl⟩⟩; refine ⟨_, rfl, ?_⟩))
 go_ret
 exact ⟨rsd, by repeat (first | exact Drawn0.refl _ | apply Drawn0.step)⟩
def spec_KeyOk.f (a0 : Int) : Option (Bool) := (spec_l1In.f a0 0 3).bind fun t131 => (some t131)
set_option maxHeartbeats 8000000 in
set_option maxRecDepth 100000 in
theorem spec_KeyOk.calls (a0 : Int) (r : Bool) (w : World) (h : spec_KeyOk.f a0 = some r) :
  Calls Tryz.prog 165 #[.int .i64 a0] w fun e w' => e = .returned (.bool r) ∧ Drawn0 w w' := by
 have H := h
 clear h
 unfold spec_KeyOk.f at H
 obtain ⟨t131, A2, H⟩ := bn H
 try dsimp only at H
 obtain rfl := oin H
 go_enter Tryz.func165, Tryz.ntmps165
 go_wp2_with (first | ((with_reducible refine gf 70 rfl ?_); refine gL 4 Tryz.func70 #[.int .i64 a0, .int .i64 0, .int .i64 3] ?_; (with_reducible refine (spec_l1In.calls a0 0 3 t131 _ A2.out).mono ?_); rintro e w' ⟨rfl, ⟨nd, rfl⟩⟩; refine ⟨_, rfl, ?_⟩))
 go_ret
 exact ⟨rsd, by repeat (first | exact Drawn0.refl _ | apply Drawn0.step)⟩
def spec_l4Val.f (a0 : Int) : Option (Bool) := if a0 = 1 then (some true) else (if a0 = 2 then (some true) else (if a0 = 5 then (some true) else (some (a0 == 10))))
set_option maxHeartbeats 8000000 in
set_option maxRecDepth 100000 in
theorem spec_l4Val.calls (a0 : Int) (r : Bool) (w : World) (h : spec_l4Val.f a0 = some r) :
  Calls Tryz.prog 166 #[.int .i64 a0] w fun e w' => e = .returned (.bool r) ∧ Drawn0 w w' := by
 have H := h
 clear h
 unfold spec_l4Val.f at H
 by_cases c2 : a0 = 1
 case pos =>
  rw [if_pos c2] at H
  have c2b0 : (a0 == 1) = true := beq_iff_eq.mpr c2
  have c2b1 : (a0 != 1) = false := bne_eq_false_iff_eq.mpr c2
  clear c2
  obtain rfl := oin H
  go_enter Tryz.func166, Tryz.ntmps166
  go_wp2
  go_ret
  exact ⟨rsd, by repeat (first | exact Drawn0.refl _ | apply Drawn0.step)⟩
 rw [if_neg c2] at H
 have c2b0 : (a0 == 1) = false := beq_eq_false_iff_ne.mpr c2
 have c2b1 : (a0 != 1) = true := bne_iff_ne.mpr c2
 by_cases c3 : a0 = 2
 case pos =>
  rw [if_pos c3] at H
  have c3b0 : (a0 == 2) = true := beq_iff_eq.mpr c3
  have c3b1 : (a0 != 2) = false := bne_eq_false_iff_eq.mpr c3
  clear c3
  obtain rfl := oin H
  go_enter Tryz.func166, Tryz.ntmps166
  go_wp2
  go_ret
  exact ⟨rsd, by repeat (first | exact Drawn0.refl _ | apply Drawn0.step)⟩
 rw [if_neg c3] at H
 have c3b0 : (a0 == 2) = false := beq_eq_false_iff_ne.mpr c3
 have c3b1 : (a0 != 2) = true := bne_iff_ne.mpr c3
 by_cases c4 : a0 = 5
 case pos =>
  rw [if_pos c4] at H
  have c4b0 : (a0 == 5) = true := beq_iff_eq.mpr c4
  have c4b1 : (a0 != 5) = false := bne_eq_false_iff_eq.mpr c4
  clear c4
  obtain rfl := oin H
  go_enter Tryz.func166, Tryz.ntmps166
  go_wp2
  go_ret
  exact ⟨rsd, by repeat (first | exact Drawn0.refl _ | apply Drawn0.step)⟩
 rw [if_neg c4] at H
 have c4b0 : (a0 == 5) = false := beq_eq_false_iff_ne.mpr c4
 have c4b1 : (a0 != 5) = true := bne_iff_ne.mpr c4
 obtain rfl := oin H
 go_enter Tryz.func166, Tryz.ntmps166
 go_wp2
 go_ret
 exact ⟨rsd, by repeat (first | exact Drawn0.refl _ | apply Drawn0.step)⟩
mutual
def spec_OpOk.j0 : Nat → Bool → Int → Int → Int → Option (Bool)
 | 0, _, _, _, _ => none
 | k + 1, x3, x133000, x133001, x133002 => if x133000 = 6 then ((spec_l1In.f x133001 0 2).bind fun t136 => (spec_OpOk.j1 k t136 x133000 x133001 x133002)) else (spec_OpOk.j1 k x3 x133000 x133001 x133002)
def spec_OpOk.j1 : Nat → Bool → Int → Int → Int → Option (Bool)
 | 0, _, _, _, _ => none
 | k + 1, x3, x133000, x133001, x133002 => (spec_l4Val.f x133000).bind fun t137 => (if t137 = true then (if x3 = true then ((spec_ValOk.f x133002).bind fun t138 => (some t138)) else (some false)) else (if x3 = true then (some (x133002 == 0)) else (some false)))
end
def spec_OpOk.f (k : Nat) (a0_0 : Int) (a0_1 : Int) (a0_2 : Int) : Option (Bool) := (spec_l1In.f a0_0 1 10).bind fun t133 => (if t133 = true then ((spec_l4Key.f a0_0).bind fun t134 => (if t134 = true then ((spec_KeyOk.f a0_1).bind fun t135 => (spec_OpOk.j0 k t135 a0_0 a0_1 a0_2)) else (spec_OpOk.j0 k (a0_1 == 0) a0_0 a0_1 a0_2))) else (some false))
set_option maxHeartbeats 8000000 in
set_option maxRecDepth 100000 in
theorem spec_OpOk.calls (k : Nat) (a0_0 : Int) (a0_1 : Int) (a0_2 : Int) (r : Bool) (w : World) (h : spec_OpOk.f k a0_0 a0_1 a0_2 = some r) :
  Calls Tryz.prog 118 #[.agg #[.int .i64 a0_0, .int .i64 a0_1, .int .i64 a0_2]] w fun e w' => e = .returned (.bool r) ∧ Below w.heap.size w w' := by
 have hu132 := Tryz.underlying132
 have HB := Aside0.mk (Below.refl w.heap.size w)
 have H := h
 clear h
 unfold spec_OpOk.f at H
 obtain ⟨t133, A2, H⟩ := bn H
 try dsimp only at H
 cases t133
 case false =>
  replace H := ipf H
  obtain rfl := oin H
  go_enter Tryz.func118, Tryz.ntmps118
  go_wp2_with (first | ((with_reducible refine gq 1 rfl ?_); refine bx0 HB (N := 1) (t := 132) ?_; clear HB; intro gb132 w25 BK132 GE132 HB; have hz26 := cs3_ BK132) | ((with_reducible refine gf 70 rfl ?_); refine gL 6 Tryz.func70 #[.int .i64 a0_0, .int .i64 1, .int .i64 10] ?_; (with_reducible refine (spec_l1In.calls a0_0 1 10 false _ A2.out).mono ?_); rintro e w' ⟨rfl, ⟨nd, rfl⟩⟩; refine ⟨_, rfl, ?_⟩))
  go_ret
  exact ⟨er, tb HB⟩
 replace H := ipt H
 obtain ⟨t134, A4, H⟩ := bn H
 try dsimp only at H
 have HC5 := Aside0.mk H
 clear H
 go_enter Tryz.func118, Tryz.ntmps118
 go_upto_if 13 with (first | ((with_reducible refine gq 1 rfl ?_); refine bx0 HB (N := 1) (t := 132) ?_; clear HB; intro gb132 w6 BK132 GE132 HB; have hz7 := cs3_ BK132) | ((with_reducible refine gf 70 rfl ?_); refine gL 6 Tryz.func70 #[.int .i64 a0_0, .int .i64 1, .int .i64 10] ?_; (with_reducible refine (spec_l1In.calls a0_0 1 10 true _ A2.out).mono ?_); rintro e w' ⟨rfl, ⟨nd, rfl⟩⟩; refine ⟨_, rfl, ?_⟩) | ((with_reducible refine gf 164 rfl ?_); refine gL 13 Tryz.func164 #[.int .i64 a0_0] ?_; (with_reducible refine (spec_l4Key.calls a0_0 t134 _ A4.out).mono ?_); rintro e w' ⟨rfl, ⟨nd, rfl⟩⟩; refine ⟨_, rfl, ?_⟩))
 (try simp only [Act.put, sA, sB, sC])
 go_cut [3] (fun v3 wc => ∃ (kq : Nat) (x3_4 : Bool), v3 = .bool x3_4 ∧ Aside0 (spec_OpOk.j0 kq x3_4 a0_0 a0_1 a0_2 = some r) ∧ Aside0 (kq ≤ k) ∧ Aside0 (wc.heap[gb132]? = some (.cells #[.int .i64 a0_0, .int .i64 a0_1, .int .i64 a0_2] 132 (0, 0))) ∧ Aside0 (Below w.heap.size w wc))
 case first =>
  have H := HC5.out
  clear HC5
  cases t134
  case false =>
   replace H := ipf H
   have H' := Aside0.mk H
   clear H
   go_wp2
   go_meet
   case rel => exact ⟨_, ((a0_1 == 0)), rsd, H', ⟨by first | omega | exact Nat.le_refl _⟩, ⟨by (with_reducible repeat (first | refine blk_drewN ?_ _ | refine blk_drew ?_ | refine blk_alloc ?_ _)); exact BK132.out⟩, ⟨tb HB⟩⟩
  replace H := ipt H
  obtain ⟨t135, A9, H⟩ := bn H
  try dsimp only at H
  have H' := Aside0.mk H
  clear H
  have hz10 := cs3_ BK132
  go_wp2_with (first | ((with_reducible refine gf 165 rfl ?_); refine gL 16 Tryz.func165 #[.int .i64 a0_1] ?_; (with_reducible refine (spec_KeyOk.calls a0_1 t135 _ A9.out).mono ?_); rintro e w' ⟨rfl, ⟨nd, rfl⟩⟩; refine ⟨_, rfl, ?_⟩))
  go_meet
  case rel => exact ⟨_, (t135), rsd, H', ⟨by first | omega | exact Nat.le_refl _⟩, ⟨by (with_reducible repeat (first | refine blk_drewN ?_ _ | refine blk_drew ?_ | refine blk_alloc ?_ _)); exact BK132.out⟩, ⟨tb HB⟩⟩
 case rest =>
  clear HC5
  try clear c1
  try clear p2
  try clear c3
  try clear c7
  try clear c8
  try clear hz10
  try clear hz7
  try clear hz10
  try clear hz7
  obtain ⟨kq, x3_4, rfl, HA, HJ4, BK132, HB⟩ := hcut
  cases kq with
  | zero => exact absurd HA.out (by simp [spec_OpOk.j0])
  | succ kj4 =>
   have H := HA.out
   clear HA
   simp only [spec_OpOk.j0] at H
   have HC11 := Aside0.mk H
   clear H
   have hz12 := cs3_ BK132
   go_upto_if 19 with (fail)
   go_cut [3] (fun v3 wc => ∃ (kq : Nat) (x3_10 : Bool), v3 = .bool x3_10 ∧ Aside0 (spec_OpOk.j1 kq x3_10 a0_0 a0_1 a0_2 = some r) ∧ Aside0 (kq ≤ kj4) ∧ Aside0 (wc.heap[gb132]? = some (.cells #[.int .i64 a0_0, .int .i64 a0_1, .int .i64 a0_2] 132 (0, 0))) ∧ Aside0 (Below w.heap.size w wc))
   case first =>
    have H := HC11.out
    clear HC11
    by_cases c13 : a0_0 = 6
    case neg =>
     rw [if_neg c13] at H
     have c13b0 : (a0_0 == 6) = false := beq_eq_false_iff_ne.mpr c13
     have c13b1 : (a0_0 != 6) = true := bne_iff_ne.mpr c13
     (first | rw [c13b0] | (simp only [i64_w, i32_w]; rw [c13b0]) | skip)
     have H' := Aside0.mk H
     clear H
     go_wp2
     go_meet
     case rel => exact ⟨_, (x3_4), rsd, H', ⟨by have := HJ4.out; first | omega | exact Nat.le_refl _⟩, ⟨by (with_reducible repeat (first | refine blk_drewN ?_ _ | refine blk_drew ?_ | refine blk_alloc ?_ _)); exact BK132.out⟩, ⟨tb HB⟩⟩
    rw [if_pos c13] at H
    have c13b0 : (a0_0 == 6) = true := beq_iff_eq.mpr c13
    have c13b1 : (a0_0 != 6) = false := bne_eq_false_iff_eq.mpr c13
    clear c13
    (first | rw [c13b0] | (simp only [i64_w, i32_w]; rw [c13b0]) | skip)
    obtain ⟨t136, A14, H⟩ := bn H
    try dsimp only at H
    have H' := Aside0.mk H
    clear H
    have hz15 := cs3_ BK132
    go_wp2_with (first | ((with_reducible refine gf 70 rfl ?_); refine gL 22 Tryz.func70 #[.int .i64 a0_1, .int .i64 0, .int .i64 2] ?_; (with_reducible refine (spec_l1In.calls a0_1 0 2 t136 _ A14.out).mono ?_); rintro e w' ⟨rfl, ⟨nd, rfl⟩⟩; refine ⟨_, rfl, ?_⟩))
    go_meet
    case rel => exact ⟨_, (t136), rsd, H', ⟨by have := HJ4.out; first | omega | exact Nat.le_refl _⟩, ⟨by (with_reducible repeat (first | refine blk_drewN ?_ _ | refine blk_drew ?_ | refine blk_alloc ?_ _)); exact BK132.out⟩, ⟨tb HB⟩⟩
   case rest =>
    clear HC11
    try clear c1
    try clear p2
    try clear c3
    try clear c7
    try clear c8
    try clear c11
    try clear c13
    try clear c13b0
    try clear c13b1
    try clear hz10
    try clear hz12
    try clear hz15
    try clear hz7
    try clear hz10
    try clear hz12
    try clear hz15
    try clear hz7
    try clear p2
    obtain ⟨kq, x3_10, rfl, HA, HJ10, BK132, HB⟩ := hcut
    cases kq with
    | zero => exact absurd HA.out (by simp [spec_OpOk.j1])
    | succ kj10 =>
     have H := HA.out
     clear HA
     simp only [spec_OpOk.j1] at H
     obtain ⟨t137, A16, H⟩ := bn H
     try dsimp only at H
     cases t137
     case false =>
      replace H := ipf H
      cases x3_10
      case true =>
       replace H := ipt H
       obtain rfl := oin H
       have hz23 := cs3_ BK132
       go_wp2_with (first | ((with_reducible refine gf 166 rfl ?_); refine gL 25 Tryz.func166 #[.int .i64 a0_0] ?_; (with_reducible refine (spec_l4Val.calls a0_0 false _ A16.out).mono ?_); rintro e w' ⟨rfl, ⟨nd, rfl⟩⟩; refine ⟨_, rfl, ?_⟩))
       go_ret
       exact ⟨er, tb HB⟩
      replace H := ipf H
      obtain rfl := oin H
      have hz24 := cs3_ BK132
      go_wp2_with (first | ((with_reducible refine gf 166 rfl ?_); refine gL 25 Tryz.func166 #[.int .i64 a0_0] ?_; (with_reducible refine (spec_l4Val.calls a0_0 false _ A16.out).mono ?_); rintro e w' ⟨rfl, ⟨nd, rfl⟩⟩; refine ⟨_, rfl, ?_⟩))
      go_ret
      exact ⟨er, tb HB⟩
     replace H := ipt H
     cases x3_10
     case false =>
      replace H := ipf H
      obtain rfl := oin H
      have hz21 := cs3_ BK132
      go_wp2_with (first | ((with_reducible refine gf 166 rfl ?_); refine gL 25 Tryz.func166 #[.int .i64 a0_0] ?_; (with_reducible refine (spec_l4Val.calls a0_0 true _ A16.out).mono ?_); rintro e w' ⟨rfl, ⟨nd, rfl⟩⟩; refine ⟨_, rfl, ?_⟩))
      go_ret
      exact ⟨er, tb HB⟩
     replace H := ipt H
     obtain ⟨t138, A19, H⟩ := bn H
     try dsimp only at H
     obtain rfl := oin H
     have hz20 := cs3_ BK132
     go_wp2_with (first | ((with_reducible refine gf 166 rfl ?_); refine gL 25 Tryz.func166 #[.int .i64 a0_0] ?_; (with_reducible refine (spec_l4Val.calls a0_0 true _ A16.out).mono ?_); rintro e w' ⟨rfl, ⟨nd, rfl⟩⟩; refine ⟨_, rfl, ?_⟩) | (go_at_call 139; (with_reducible refine (spec_ValOk.calls a0_2 t138 _ A19.out).mono ?_); rintro e w' ⟨rfl, ⟨nd, rfl⟩⟩))
     go_ret
     exact ⟨er, tb HB⟩
mutual
def spec_ThreadOk.j0 : Nat → Int → Bool → List (S132) → Int → Bool → List (S145) → List (S42) → Option (Bool)
 | 0, _, _, _, _, _, _, _ => none
 | k + 1, x1, x60, x140000, x140001, x140002, x140003, x140004 => if x60 = true then (some false) else (spec_ThreadOk.l0 k x1 0 x140000 x140001 x140002 x140003 x140004)
def spec_ThreadOk.l0 : Nat → Int → Int → List (S132) → Int → Bool → List (S145) → List (S42) → Option (Bool)
 | 0, _, _, _, _, _, _, _ => none
 | k + 1, x1, x5, x140000, x140001, x140002, x140003, x140004 => if x5 < (x140000.length : Int) then (if 0 ≤ x5 then ((spec_OpOk.f k ((rd_T132 x140000 x5).f0) ((rd_T132 x140000 x5).f1) ((rd_T132 x140000 x5).f2)).bind fun t142 => (if t142 = true then (spec_ThreadOk.l0 k x1 (wrap64 (x5 + 1)) x140000 x140001 x140002 x140003 x140004) else (some false))) else (none)) else (spec_ThreadOk.l1 k x1 0 x140000 x140001 x140002 x140003 x140004)
def spec_ThreadOk.l1 : Nat → Int → Int → List (S132) → Int → Bool → List (S145) → List (S42) → Option (Bool)
 | 0, _, _, _, _, _, _, _ => none
 | k + 1, x1, x6, x140000, x140001, x140002, x140003, x140004 => if x6 < (x140003.length : Int) then (if 0 ≤ x6 then ((spec_l1In.f ((rd_T145 x140003 x6).f0) 0 19).bind fun t144 => (if t144 = true then ((spec_l1In.f ((rd_T145 x140003 x6).f1) 0 1000).bind fun t146 => (if t146 = true then (spec_ThreadOk.l1 k x1 (wrap64 (x6 + 1)) x140000 x140001 x140002 x140003 x140004) else (some false))) else (some false))) else (none)) else (spec_ThreadOk.l2 k x1 0 x140000 x140001 x140002 x140003 x140004)
def spec_ThreadOk.l2 : Nat → Int → Int → List (S132) → Int → Bool → List (S145) → List (S42) → Option (Bool)
 | 0, _, _, _, _, _, _, _ => none
 | k + 1, x1, x7, x140000, x140001, x140002, x140003, x140004 => if x7 < (x140004.length : Int) then (if 0 ≤ x7 then (if ((rd_T42 x140004 x7).f0) < 0 then (some false) else (if ((rd_T42 x140004 x7).f0) ≥ x1 then (some false) else ((spec_l1In.f ((rd_T42 x140004 x7).f1) 1 1000000).bind fun t149 => (if t149 = true then ((spec_l1In.f ((rd_T42 x140004 x7).f2) 0 20).bind fun t150 => (if t150 = true then ((spec_l1In.f ((rd_T42 x140004 x7).f3) 0 20).bind fun t151 => (if t151 = true then (spec_ThreadOk.l2 k x1 (wrap64 (x7 + 1)) x140000 x140001 x140002 x140003 x140004) else (some false))) else (some false))) else (some false))))) else (none)) else (some true)
end
def spec_ThreadOk.f (k : Nat) (l0_0 : List (S132)) (a0_1 : Int) (a0_2 : Bool) (l0_3 : List (S145)) (l0_4 : List (S42)) (a1 : Int) : Option (Bool) := if (l0_0.length : Int) > 8 then (spec_ThreadOk.j0 k a1 true l0_0 a0_1 a0_2 l0_3 l0_4) else ((spec_l1In.f a0_1 0 (l0_0.length : Int)).bind fun t140 => (if t140 = true then (if a0_2 = true then (if a0_1 ≥ (l0_0.length : Int) then (spec_ThreadOk.j0 k a1 true l0_0 a0_1 a0_2 l0_3 l0_4) else (if (l0_3.length : Int) > 12 then (spec_ThreadOk.j0 k a1 true l0_0 a0_1 a0_2 l0_3 l0_4) else (spec_ThreadOk.j0 k a1 (decide ((l0_4.length : Int) > 2)) l0_0 a0_1 a0_2 l0_3 l0_4))) else (if (wrap64 ((l0_3.length : Int) + (l0_4.length : Int))) > 0 then (spec_ThreadOk.j0 k a1 true l0_0 a0_1 a0_2 l0_3 l0_4) else (if (l0_3.length : Int) > 12 then (spec_ThreadOk.j0 k a1 true l0_0 a0_1 a0_2 l0_3 l0_4) else (spec_ThreadOk.j0 k a1 (decide ((l0_4.length : Int) > 2)) l0_0 a0_1 a0_2 l0_3 l0_4)))) else (spec_ThreadOk.j0 k a1 true l0_0 a0_1 a0_2 l0_3 l0_4)))
set_option maxHeartbeats 8000000 in
set_option maxRecDepth 100000 in
theorem spec_ThreadOk.calls (k : Nat) (A0_0 : Option Addr) (c0_0 : Nat) (l0_0 : List (S132)) (a0_1 : Int) (a0_2 : Bool) (A0_3 : Option Addr) (c0_3 : Nat) (l0_3 : List (S145)) (A0_4 : Option Addr) (c0_4 : Nat) (l0_4 : List (S42)) (a1 : Int) (r : Bool) (w : World) (hr0_0 : Kd.C k132 w A0_0 l0_0.length l0_0) (hc0_0 : l0_0.length ≤ c0_0) (hr0_3 : Kd.C k145 w A0_3 l0_3.length l0_3) (hc0_3 : l0_3.length ≤ c0_3) (hr0_4 : Kd.C k42 w A0_4 l0_4.length l0_4) (hc0_4 : l0_4.length ≤ c0_4) (h : spec_ThreadOk.f k l0_0 a0_1 a0_2 l0_3 l0_4 a1 = some r) :
  Calls Tryz.prog 48 #[.agg #[.slice A0_0 l0_0.length c0_0, .int .i64 a0_1, .bool a0_2, .slice A0_3 l0_3.length c0_3, .slice A0_4 l0_4.length c0_4], .int .i64 a1] w fun e w' => e = .returned (.bool r) ∧ Below w.heap.size w w' := by
 have hu82 := Tryz.underlying82
 have hu132 := Tryz.underlying132
 have hu42 := Tryz.underlying42
 have HR0_0 := Aside0.mk hr0_0
 have HC0_0 := Aside0.mk hc0_0
 clear hr0_0 hc0_0
 have HR0_3 := Aside0.mk hr0_3
 have HC0_3 := Aside0.mk hc0_3
 clear hr0_3 hc0_3
 have HR0_4 := Aside0.mk hr0_4
 have HC0_4 := Aside0.mk hc0_4
 clear hr0_4 hc0_4
 have HB := Aside0.mk (Below.refl w.heap.size w)
 have H := h
 clear h
 unfold spec_ThreadOk.f at H
 have HC3 := Aside0.mk H
 clear H
 go_enter Tryz.func48, Tryz.ntmps48
 go_upto_region 1 with (first | ((with_reducible refine gq 2 rfl ?_); (try (refine gate_guard (by rfl) ?_; dsimp only)); refine bx0 HB (N := 2) (t := 82) ?_; clear HB; intro gb139 w4 BK139 GE139 HB))
 (try simp only [Act.put, sA, sB, sC])
 go_cut [60] (fun v60 wc => ∃ (kq : Nat) (x60_2 : Bool), v60 = .bool x60_2 ∧ Aside0 (spec_ThreadOk.j0 kq a1 x60_2 l0_0 a0_1 a0_2 l0_3 l0_4 = some r) ∧ Aside0 (kq ≤ k) ∧ Aside0 (wc.heap[gb139]? = some (.cells #[(.slice A0_0 l0_0.length c0_0), .int .i64 a0_1, .bool a0_2, (.slice A0_3 l0_3.length c0_3), (.slice A0_4 l0_4.length c0_4)] 82 (0, 0))) ∧ Aside0 (Below w.heap.size w wc))
 case first =>
  have H := HC3.out
  clear HC3
  by_cases c5 : (l0_0.length : Int) > 8
  case pos =>
   rw [if_pos c5] at H
   have c5b0 := decide_eq_true c5
   have c5b1 : decide (8 < l0_0.length) = true := decide_eq_true (by omega)
   clear c5
   (first | rw [c5b0] | (simp only [i64_w, i32_w]; rw [c5b0]) | skip)
   have H' := Aside0.mk H
   clear H
   have hz6 := cs5_ BK139
   go_wp2
   go_meet
   case rel => exact ⟨_, (true), rsd, H', ⟨by first | omega | exact Nat.le_refl _⟩, ⟨by (with_reducible repeat (first | refine blk_drewN ?_ _ | refine blk_drew ?_ | refine blk_alloc ?_ _)); exact BK139.out⟩, ⟨tb HB⟩⟩
  rw [if_neg c5] at H
  have c5b0 := decide_eq_false c5
  have c5b1 : decide (8 < l0_0.length) = false := decide_eq_false (by omega)
  clear c5
  (first | rw [c5b0] | (simp only [i64_w, i32_w]; rw [c5b0]) | skip)
  obtain ⟨t140, A7, H⟩ := bn H
  try dsimp only at H
  cases t140
  case false =>
   replace H := ipf H
   have H' := Aside0.mk H
   clear H
   have hz20 := cs5_ BK139
   go_wp2_with (first | (go_at_call 70; (with_reducible refine (spec_l1In.calls a0_1 0 (l0_0.length : Int) false _ A7.out).mono ?_); rintro e w' ⟨rfl, ⟨nd, rfl⟩⟩))
   go_meet
   case rel => exact ⟨_, (true), rsd, H', ⟨by first | omega | exact Nat.le_refl _⟩, ⟨by (with_reducible repeat (first | refine blk_drewN ?_ _ | refine blk_drew ?_ | refine blk_alloc ?_ _)); exact BK139.out⟩, ⟨tb HB⟩⟩
  replace H := ipt H
  cases a0_2
  case true =>
   replace H := ipt H
   revert H; refine icd (fun c10b0 H => ?pos) fun c10b0 H => ?_
   case pos =>
    have H' := Aside0.mk H
    clear H
    have hz11 := cs5_ BK139
    go_wp2_with (first | (go_at_call 70; (with_reducible refine (spec_l1In.calls a0_1 0 (l0_0.length : Int) true _ A7.out).mono ?_); rintro e w' ⟨rfl, ⟨nd, rfl⟩⟩))
    go_meet
    case rel => exact ⟨_, (true), rsd, H', ⟨by first | omega | exact Nat.le_refl _⟩, ⟨by (with_reducible repeat (first | refine blk_drewN ?_ _ | refine blk_drew ?_ | refine blk_alloc ?_ _)); exact BK139.out⟩, ⟨tb HB⟩⟩
   by_cases c12 : (l0_3.length : Int) > 12
   case neg =>
    rw [if_neg c12] at H
    have c12b0 := decide_eq_false c12
    have c12b1 : decide (12 < l0_3.length) = false := decide_eq_false (by omega)
    clear c12
    have H' := Aside0.mk H
    clear H
    have hz14 := cs5_ BK139
    go_wp2_with (first | (go_at_call 70; (with_reducible refine (spec_l1In.calls a0_1 0 (l0_0.length : Int) true _ A7.out).mono ?_); rintro e w' ⟨rfl, ⟨nd, rfl⟩⟩))
    go_meet
    case rel => exact ⟨_, (decide ((l0_4.length : Int) > 2)), rsd, H', ⟨by first | omega | exact Nat.le_refl _⟩, ⟨by (with_reducible repeat (first | refine blk_drewN ?_ _ | refine blk_drew ?_ | refine blk_alloc ?_ _)); exact BK139.out⟩, ⟨tb HB⟩⟩
   rw [if_pos c12] at H
   have c12b0 := decide_eq_true c12
   have c12b1 : decide (12 < l0_3.length) = true := decide_eq_true (by omega)
   clear c12
   have H' := Aside0.mk H
   clear H
   have hz13 := cs5_ BK139
   go_wp2_with (first | (go_at_call 70; (with_reducible refine (spec_l1In.calls a0_1 0 (l0_0.length : Int) true _ A7.out).mono ?_); rintro e w' ⟨rfl, ⟨nd, rfl⟩⟩))
   go_meet
   case rel => exact ⟨_, (true), rsd, H', ⟨by first | omega | exact Nat.le_refl _⟩, ⟨by (with_reducible repeat (first | refine blk_drewN ?_ _ | refine blk_drew ?_ | refine blk_alloc ?_ _)); exact BK139.out⟩, ⟨tb HB⟩⟩
  replace H := ipf H
  revert H; refine icd (fun c15b0 H => ?pos) fun c15b0 H => ?_
  case pos =>
   have H' := Aside0.mk H
   clear H
   have hz16 := cs5_ BK139
   go_wp2_with (first | (go_at_call 70; (with_reducible refine (spec_l1In.calls a0_1 0 (l0_0.length : Int) true _ A7.out).mono ?_); rintro e w' ⟨rfl, ⟨nd, rfl⟩⟩))
   go_meet
   case rel => exact ⟨_, (true), rsd, H', ⟨by first | omega | exact Nat.le_refl _⟩, ⟨by (with_reducible repeat (first | refine blk_drewN ?_ _ | refine blk_drew ?_ | refine blk_alloc ?_ _)); exact BK139.out⟩, ⟨tb HB⟩⟩
  by_cases c17 : (l0_3.length : Int) > 12
  case neg =>
   rw [if_neg c17] at H
   have c17b0 := decide_eq_false c17
   have c17b1 : decide (12 < l0_3.length) = false := decide_eq_false (by omega)
   clear c17
   have H' := Aside0.mk H
   clear H
   have hz19 := cs5_ BK139
   go_wp2_with (first | (go_at_call 70; (with_reducible refine (spec_l1In.calls a0_1 0 (l0_0.length : Int) true _ A7.out).mono ?_); rintro e w' ⟨rfl, ⟨nd, rfl⟩⟩))
   go_meet
   case rel => exact ⟨_, (decide ((l0_4.length : Int) > 2)), rsd, H', ⟨by first | omega | exact Nat.le_refl _⟩, ⟨by (with_reducible repeat (first | refine blk_drewN ?_ _ | refine blk_drew ?_ | refine blk_alloc ?_ _)); exact BK139.out⟩, ⟨tb HB⟩⟩
  rw [if_pos c17] at H
  have c17b0 := decide_eq_true c17
  have c17b1 : decide (12 < l0_3.length) = true := decide_eq_true (by omega)
  clear c17
  have H' := Aside0.mk H
  clear H
  have hz18 := cs5_ BK139
  go_wp2_with (first | (go_at_call 70; (with_reducible refine (spec_l1In.calls a0_1 0 (l0_0.length : Int) true _ A7.out).mono ?_); rintro e w' ⟨rfl, ⟨nd, rfl⟩⟩))
  go_meet
  case rel => exact ⟨_, (true), rsd, H', ⟨by first | omega | exact Nat.le_refl _⟩, ⟨by (with_reducible repeat (first | refine blk_drewN ?_ _ | refine blk_drew ?_ | refine blk_alloc ?_ _)); exact BK139.out⟩, ⟨tb HB⟩⟩
 case rest =>
  clear HC3
  try clear c1
  try clear p2
  try clear c4
  try clear c5
  try clear c5b0
  try clear c5b1
  try clear p6
  try clear c8
  try clear c9
  try clear c10
  try clear c10b0
  try clear c12
  try clear c12b0
  try clear c12b1
  try clear c15
  try clear c15b0
  try clear c17
  try clear c17b0
  try clear c17b1
  try clear hz11
  try clear hz13
  try clear hz14
  try clear hz16
  try clear hz18
  try clear hz19
  try clear hz20
  try clear hz6
  try clear hz11
  try clear hz13
  try clear hz14
  try clear hz16
  try clear hz18
  try clear hz19
  try clear hz20
  try clear hz6
  obtain ⟨kq, x60_2, rfl, HA, HJ2, BK139, HB⟩ := hcut
  cases kq with
  | zero => exact absurd HA.out (by simp [spec_ThreadOk.j0])
  | succ kj2 =>
   have H := HA.out
   clear HA
   simp only [spec_ThreadOk.j0] at H
   cases x60_2
   case true =>
    replace H := ipt H
    obtain rfl := oin H
    go_wp2
    go_ret
    exact ⟨er, tb HB⟩
   replace H := ipf H
   have H' := Aside0.mk H
   clear H
   go_wp2
   go_loopg [5] kj2 (fun kq v5 w' => ∃ (x5_2 : Int), v5 = .int .i64 x5_2 ∧ Aside0 (spec_ThreadOk.l0 kq a1 x5_2 l0_0 a0_1 a0_2 l0_3 l0_4 = some r) ∧ Aside0 (kq ≤ kj2) ∧ Aside0 (w'.heap[gb139]? = some (.cells #[(.slice A0_0 l0_0.length c0_0), .int .i64 a0_1, .bool a0_2, (.slice A0_3 l0_3.length c0_3), (.slice A0_4 l0_4.length c0_4)] 82 (0, 0))) ∧ Aside0 (Below w.heap.size w w'))
   case atStart => exact ⟨(0), rsd, H', ⟨Nat.le_refl _⟩, ⟨by (with_reducible repeat (first | refine blk_drewN ?_ _ | refine blk_drew ?_ | refine blk_alloc ?_ _)); exact BK139.out⟩, ⟨tb HB⟩⟩
   case round =>
    clear H'
    try clear c1
    try clear c2
    try clear p2
    try clear c4
    try clear c5
    try clear c5b0
    try clear c5b1
    try clear p6
    try clear c8
    try clear c9
    try clear c10
    try clear c10b0
    try clear c12
    try clear c12b0
    try clear c12b1
    try clear c15
    try clear c15b0
    try clear c17
    try clear c17b0
    try clear c17b1
    try clear c21
    try clear hz11
    try clear hz13
    try clear hz14
    try clear hz16
    try clear hz18
    try clear hz19
    try clear hz20
    try clear hz6
    try clear hz11
    try clear hz13
    try clear hz14
    try clear hz16
    try clear hz18
    try clear hz19
    try clear hz20
    try clear hz6
    try clear p2
    try clear p6
    obtain ⟨x5_2, rfl, HA, HK2, BK139, HB⟩ := hrel
    cases gk with
    | zero => exact absurd HA.out (by simp [spec_ThreadOk.l0])
    | succ k2 =>
     have H := HA.out
     clear HA
     simp only [spec_ThreadOk.l0] at H
     revert H; refine icd (fun c22b0 H => ?pos) fun c22b0 H => ?_
     case pos =>
      obtain ⟨c23b0, H⟩ := itd H
      obtain ⟨t142, A24, H⟩ := bn H
      try dsimp only at H
      cases t142
      case false =>
       replace H := ipf H
       obtain rfl := oin H
       have hz28 := cs5_ BK139
       have p141 : 0 ≤ (x5_2 : Int) := od
       have q141 : x5_2 < (l0_0.length : Int) := od
       obtain ⟨ad141, e141, hx141⟩ := att132 HR0_0.out x5_2 p141 q141
       cases e141
       replace hx141 := ox3 HB hx141
       replace p141 := eq_true p141
       replace q141 := eq_true q141
       go_wp2_with (first | ((with_reducible refine gf 118 rfl ?_); refine gL 73 Tryz.func118 #[.agg #[.int .i64 ((rd_T132 l0_0 x5_2).f0), .int .i64 ((rd_T132 l0_0 x5_2).f1), .int .i64 ((rd_T132 l0_0 x5_2).f2)]] ?_; (with_reducible refine (spec_OpOk.calls k2 ((rd_T132 l0_0 x5_2).f0) ((rd_T132 l0_0 x5_2).f1) ((rd_T132 l0_0 x5_2).f2) false _ A24.out).mono ?_); rintro e w29 ⟨rfl, hb⟩; refine ⟨_, rfl, ?_⟩; replace BK139 := bb BK139 hb; replace HB := bs HB hb; (try clear hb)))
       go_ret
       exact ⟨er, tb HB⟩
      replace H := ipt H
      have H' := Aside0.mk H
      clear H
      have hz26 := cs5_ BK139
      have p141 : 0 ≤ (x5_2 : Int) := od
      have q141 : x5_2 < (l0_0.length : Int) := od
      obtain ⟨ad141, e141, hx141_0, hx141_1, hx141_2⟩ := at_T132 HR0_0.out x5_2 p141 q141
      cases e141
      replace hx141_0 := ox HB hx141_0
      replace hx141_1 := ox HB hx141_1
      replace hx141_2 := ox HB hx141_2
      replace p141 := eq_true p141
      replace q141 := eq_true q141
      go_wp2_with (first | ((with_reducible refine gf 118 rfl ?_); refine gL 73 Tryz.func118 #[.agg #[.int .i64 ((rd_T132 l0_0 x5_2).f0), .int .i64 ((rd_T132 l0_0 x5_2).f1), .int .i64 ((rd_T132 l0_0 x5_2).f2)]] ?_; (with_reducible refine (spec_OpOk.calls k2 ((rd_T132 l0_0 x5_2).f0) ((rd_T132 l0_0 x5_2).f1) ((rd_T132 l0_0 x5_2).f2) true _ A24.out).mono ?_); rintro e w27 ⟨rfl, hb⟩; refine ⟨_, rfl, ?_⟩; replace BK139 := bb BK139 hb; replace HB := bs HB hb; (try clear hb)))
      go_roundg k2
      case measure => have := HJ2.out; have := HK2.out; omega
      case rel => exact ⟨(wrap64 (x5_2 + 1)), rsd, H', ⟨by have := HJ2.out; have := HK2.out; omega⟩, ⟨by (with_reducible repeat (first | refine blk_drewN ?_ _ | refine blk_drew ?_ | refine blk_alloc ?_ _)); exact BK139.out⟩, ⟨tb HB⟩⟩
     have H' := Aside0.mk H
     clear H
     have hz30 := cs5_ BK139
     go_wp2
     go_loopg [6] k2 (fun kq v6 w' => ∃ (x6_3 : Int), v6 = .int .i64 x6_3 ∧ Aside0 (spec_ThreadOk.l1 kq a1 x6_3 l0_0 a0_1 a0_2 l0_3 l0_4 = some r) ∧ Aside0 (kq ≤ k2) ∧ Aside0 (w'.heap[gb139]? = some (.cells #[(.slice A0_0 l0_0.length c0_0), .int .i64 a0_1, .bool a0_2, (.slice A0_3 l0_3.length c0_3), (.slice A0_4 l0_4.length c0_4)] 82 (0, 0))) ∧ Aside0 (Below w.heap.size w w'))
     case atStart => exact ⟨(0), rsd, H', ⟨Nat.le_refl _⟩, ⟨by (with_reducible repeat (first | refine blk_drewN ?_ _ | refine blk_drew ?_ | refine blk_alloc ?_ _)); exact BK139.out⟩, ⟨tb HB⟩⟩
     case round =>
      clear H'
      try clear c1
      try clear p1
      try clear q1
      try clear hx1
      try clear c2
      try clear p2
      try clear c4
      try clear c5
      try clear c5b0
      try clear c5b1
      try clear p6
      try clear c8
      try clear c9
      try clear c10
      try clear c10b0
      try clear c11
      try clear c12
      try clear c12b0
      try clear c12b1
      try clear p14
      try clear q14
      try clear hx14
      try clear c15
      try clear c15b0
      try clear c17
      try clear c17b0
      try clear c17b1
      try clear c21
      try clear c22
      try clear c22b0
      try clear c23
      try clear c23b0
      try clear c25
      try clear hz11
      try clear hz13
      try clear hz14
      try clear hz16
      try clear hz18
      try clear hz19
      try clear hz20
      try clear hz26
      try clear hz28
      try clear hz30
      try clear hz6
      try clear hz11
      try clear hz13
      try clear hz14
      try clear hz16
      try clear hz18
      try clear hz19
      try clear hz20
      try clear hz26
      try clear hz28
      try clear hz30
      try clear hz6
      try clear hx141_0
      try clear hx141_1
      try clear hx141_2
      try clear p141
      try clear p2
      try clear p6
      try clear q141
      obtain ⟨x6_3, rfl, HA, HK3, BK139, HB⟩ := hrel
      cases gk with
      | zero => exact absurd HA.out (by simp [spec_ThreadOk.l1])
      | succ k3 =>
       have H := HA.out
       clear HA
       simp only [spec_ThreadOk.l1] at H
       revert H; refine icd (fun c31b0 H => ?pos) fun c31b0 H => ?_
       case pos =>
        obtain ⟨c32b0, H⟩ := itd H
        obtain ⟨t144, A33, H⟩ := bn H
        try dsimp only at H
        cases t144
        case false =>
         replace H := ipf H
         obtain rfl := oin H
         have hz39 := cs5_ BK139
         have p143 : 0 ≤ (x6_3 : Int) := od
         have q143 : x6_3 < (l0_3.length : Int) := od
         obtain ⟨ad143, e143, hx143⟩ := att145 HR0_3.out x6_3 p143 q143
         cases e143
         replace hx143 := ox2 HB hx143
         replace p143 := eq_true p143
         replace q143 := eq_true q143
         go_wp2_with (first | ((with_reducible refine gf 70 rfl ?_); refine gL 88 Tryz.func70 #[.int .i64 ((rd_T145 l0_3 x6_3).f0), .int .i64 0, .int .i64 19] ?_; (with_reducible refine (spec_l1In.calls ((rd_T145 l0_3 x6_3).f0) 0 19 false _ A33.out).mono ?_); rintro e w' ⟨rfl, ⟨nd, rfl⟩⟩; refine ⟨_, rfl, ?_⟩))
         go_ret
         exact ⟨er, tb HB⟩
        replace H := ipt H
        obtain ⟨t146, A35, H⟩ := bn H
        try dsimp only at H
        cases t146
        case false =>
         replace H := ipf H
         obtain rfl := oin H
         have hz38 := cs5_ BK139
         have p143 : 0 ≤ (x6_3 : Int) := od
         have q143 : x6_3 < (l0_3.length : Int) := od
         obtain ⟨ad143, e143, hx143_0, hx143_1⟩ := at_T145 HR0_3.out x6_3 p143 q143
         cases e143
         replace hx143_0 := ox HB hx143_0
         replace hx143_1 := ox HB hx143_1
         replace p143 := eq_true p143
         replace q143 := eq_true q143
         go_wp2_with (first | ((with_reducible refine gf 70 rfl ?_); refine gL 88 Tryz.func70 #[.int .i64 ((rd_T145 l0_3 x6_3).f0), .int .i64 0, .int .i64 19] ?_; (with_reducible refine (spec_l1In.calls ((rd_T145 l0_3 x6_3).f0) 0 19 true _ A33.out).mono ?_); rintro e w' ⟨rfl, ⟨nd, rfl⟩⟩; refine ⟨_, rfl, ?_⟩; have p145 : 0 ≤ (x6_3 : Int) := od; have q145 : x6_3 < (l0_3.length : Int) := od; obtain ⟨ad145, e145, hx145_0, hx145_1⟩ := at_T145 HR0_3.out x6_3 p145 q145; obtain rfl : ad143 = ad145 := (by injection e145); replace hx145_0 := ox HB hx145_0; replace hx145_1 := ox HB hx145_1; replace p145 := eq_true p145; replace q145 := eq_true q145) | (go_at_call 70; (with_reducible refine (spec_l1In.calls ((rd_T145 l0_3 x6_3).f1) 0 1000 false _ A35.out).mono ?_); rintro e w' ⟨rfl, ⟨nd, rfl⟩⟩))
         go_ret
         exact ⟨er, tb HB⟩
        replace H := ipt H
        have H' := Aside0.mk H
        clear H
        have hz37 := cs5_ BK139
        have p143 : 0 ≤ (x6_3 : Int) := od
        have q143 : x6_3 < (l0_3.length : Int) := od
        obtain ⟨ad143, e143, hx143_0, hx143_1⟩ := at_T145 HR0_3.out x6_3 p143 q143
        cases e143
        replace hx143_0 := ox HB hx143_0
        replace hx143_1 := ox HB hx143_1
        replace p143 := eq_true p143
        replace q143 := eq_true q143
        go_wp2_with (first | ((with_reducible refine gf 70 rfl ?_); refine gL 88 Tryz.func70 #[.int .i64 ((rd_T145 l0_3 x6_3).f0), .int .i64 0, .int .i64 19] ?_; (with_reducible refine (spec_l1In.calls ((rd_T145 l0_3 x6_3).f0) 0 19 true _ A33.out).mono ?_); rintro e w' ⟨rfl, ⟨nd, rfl⟩⟩; refine ⟨_, rfl, ?_⟩; have p145 : 0 ≤ (x6_3 : Int) := od; have q145 : x6_3 < (l0_3.length : Int) := od; obtain ⟨ad145, e145, hx145_0, hx145_1⟩ := at_T145 HR0_3.out x6_3 p145 q145; obtain rfl : ad143 = ad145 := (by injection e145); replace hx145_0 := ox HB hx145_0; replace hx145_1 := ox HB hx145_1; replace p145 := eq_true p145; replace q145 := eq_true q145) | (go_at_call 70; (with_reducible refine (spec_l1In.calls ((rd_T145 l0_3 x6_3).f1) 0 1000 true _ A35.out).mono ?_); rintro e w' ⟨rfl, ⟨nd, rfl⟩⟩))
        go_roundg k3
        case measure => have := HJ2.out; have := HK2.out; have := HK3.out; omega
        case rel => exact ⟨(wrap64 (x6_3 + 1)), rsd, H', ⟨by have := HJ2.out; have := HK2.out; have := HK3.out; omega⟩, ⟨by (with_reducible repeat (first | refine blk_drewN ?_ _ | refine blk_drew ?_ | refine blk_alloc ?_ _)); exact BK139.out⟩, ⟨tb HB⟩⟩
       have H' := Aside0.mk H
       clear H
       have hz40 := cs5_ BK139
       go_wp2
       go_loopg [7] k3 (fun kq v7 w' => ∃ (x7_4 : Int), v7 = .int .i64 x7_4 ∧ Aside0 (spec_ThreadOk.l2 kq a1 x7_4 l0_0 a0_1 a0_2 l0_3 l0_4 = some r) ∧ Aside0 (kq ≤ k3) ∧ Aside0 (w'.heap[gb139]? = some (.cells #[(.slice A0_0 l0_0.length c0_0), .int .i64 a0_1, .bool a0_2, (.slice A0_3 l0_3.length c0_3), (.slice A0_4 l0_4.length c0_4)] 82 (0, 0))) ∧ Aside0 (Below w.heap.size w w'))
       case atStart => exact ⟨(0), rsd, H', ⟨Nat.le_refl _⟩, ⟨by (with_reducible repeat (first | refine blk_drewN ?_ _ | refine blk_drew ?_ | refine blk_alloc ?_ _)); exact BK139.out⟩, ⟨tb HB⟩⟩
       case round =>
        clear H'
        try clear c1
        try clear p1
        try clear q1
        try clear hx1
        try clear c2
        try clear p2
        try clear c3
        try clear c4
        try clear c5
        try clear c5b0
        try clear c5b1
        try clear p6
        try clear c7
        try clear c8
        try clear c9
        try clear c10
        try clear c10b0
        try clear c11
        try clear c12
        try clear c12b0
        try clear c12b1
        try clear p14
        try clear q14
        try clear hx14
        try clear c15
        try clear c15b0
        try clear c17
        try clear c17b0
        try clear c17b1
        try clear c21
        try clear c22
        try clear c22b0
        try clear c23
        try clear c23b0
        try clear c25
        try clear c31
        try clear c31b0
        try clear c32
        try clear c32b0
        try clear c34
        try clear c36
        try clear hz11
        try clear hz13
        try clear hz14
        try clear hz16
        try clear hz18
        try clear hz19
        try clear hz20
        try clear hz26
        try clear hz28
        try clear hz30
        try clear hz37
        try clear hz38
        try clear hz39
        try clear hz40
        try clear hz6
        try clear hz11
        try clear hz13
        try clear hz14
        try clear hz16
        try clear hz18
        try clear hz19
        try clear hz20
        try clear hz26
        try clear hz28
        try clear hz30
        try clear hz37
        try clear hz38
        try clear hz39
        try clear hz40
        try clear hz6
        try clear hx141_0
        try clear hx141_1
        try clear hx141_2
        try clear hx143_0
        try clear hx143_1
        try clear hx145_0
        try clear hx145_1
        try clear p1
        try clear p14
        try clear p141
        try clear p143
        try clear p145
        try clear p2
        try clear p6
        try clear q1
        try clear q14
        try clear q141
        try clear q143
        try clear q145
        obtain ⟨x7_4, rfl, HA, HK4, BK139, HB⟩ := hrel
        cases gk with
        | zero => exact absurd HA.out (by simp [spec_ThreadOk.l2])
        | succ k4 =>
         have H := HA.out
         clear HA
         simp only [spec_ThreadOk.l2] at H
         revert H; refine icd (fun c41b0 H => ?_) fun c41b0 H => ?neg
         case neg =>
          obtain rfl := oin H
          have hz75 := cs5_ BK139
          go_wp2
          go_ret
          exact ⟨er, tb HB⟩
         obtain ⟨c42b0, H⟩ := itd H
         revert H; refine icd (fun c43b0 H => ?pos) fun c43b0 H => ?_
         case pos =>
          obtain rfl := oin H
          have hz44 := cs5_ BK139
          have p147 : 0 ≤ (x7_4 : Int) := od
          have q147 : x7_4 < (l0_4.length : Int) := od
          obtain ⟨ad147, e147, hx147_0, hx147_1, hx147_2, hx147_3⟩ := at_T42 HR0_4.out x7_4 p147 q147
          cases e147
          replace hx147_0 := ox HB hx147_0
          replace hx147_1 := ox HB hx147_1
          replace hx147_2 := ox HB hx147_2
          replace hx147_3 := ox HB hx147_3
          replace p147 := eq_true p147
          replace q147 := eq_true q147
          go_wp2_with (first | ((with_reducible refine gq 8 rfl ?_); (try (refine gate_guard (by rfl) ?_; dsimp only)); refine bx1 HB BK139 (N := 8) (cs := #[.int .i64 0, .int .i64 0, .int .i64 0, .int .i64 0]) (t := 42) ?_; clear HB BK139; intro gb148 w45 BK148 GE148 HB NB139_148 NB148_139 BK139; have hnb46 := NB148_139.out; have hnc46 := NB139_148.out; have hz47 := cs4_ BK148))
          go_ret
          exact ⟨er, tb HB⟩
         revert H; refine icd (fun c48b0 H => ?pos) fun c48b0 H => ?_
         case pos =>
          obtain rfl := oin H
          have hz49 := cs5_ BK139
          have p147 : 0 ≤ (x7_4 : Int) := od
          have q147 : x7_4 < (l0_4.length : Int) := od
          obtain ⟨ad147, e147, hx147_0, hx147_1, hx147_2, hx147_3⟩ := at_T42 HR0_4.out x7_4 p147 q147
          cases e147
          replace hx147_0 := ox HB hx147_0
          replace hx147_1 := ox HB hx147_1
          replace hx147_2 := ox HB hx147_2
          replace hx147_3 := ox HB hx147_3
          replace p147 := eq_true p147
          replace q147 := eq_true q147
          go_wp2_with (first | ((with_reducible refine gq 8 rfl ?_); (try (refine gate_guard (by rfl) ?_; dsimp only)); refine bx1 HB BK139 (N := 8) (cs := #[.int .i64 0, .int .i64 0, .int .i64 0, .int .i64 0]) (t := 42) ?_; clear HB BK139; intro gb148 w50 BK148 GE148 HB NB139_148 NB148_139 BK139; have hnb51 := NB148_139.out; have hnc51 := NB139_148.out; have hz52 := cs4_ BK148))
          go_ret
          exact ⟨er, tb HB⟩
         obtain ⟨t149, A53, H⟩ := bn H
         try dsimp only at H
         cases t149
         case false =>
          replace H := ipf H
          obtain rfl := oin H
          have hz71 := cs5_ BK139
          have p147 : 0 ≤ (x7_4 : Int) := od
          have q147 : x7_4 < (l0_4.length : Int) := od
          obtain ⟨ad147, e147, hx147⟩ := att42 HR0_4.out x7_4 p147 q147
          cases e147
          replace hx147 := ox4 HB hx147
          replace p147 := eq_true p147
          replace q147 := eq_true q147
          go_wp2_with (first | ((with_reducible refine gq 8 rfl ?_); (try (refine gate_guard (by rfl) ?_; dsimp only)); refine bx1 HB BK139 (N := 8) (cs := #[.int .i64 0, .int .i64 0, .int .i64 0, .int .i64 0]) (t := 42) ?_; clear HB BK139; intro gb148 w72 BK148 GE148 HB NB139_148 NB148_139 BK139; have hnb73 := NB148_139.out; have hnc73 := NB139_148.out; have hz74 := cs4_ BK148) | (go_at_call 70; (with_reducible refine (spec_l1In.calls ((rd_T42 l0_4 x7_4).f1) 1 1000000 false _ A53.out).mono ?_); rintro e w' ⟨rfl, ⟨nd, rfl⟩⟩))
          go_ret
          exact ⟨er, tb HB⟩
         replace H := ipt H
         obtain ⟨t150, A55, H⟩ := bn H
         try dsimp only at H
         cases t150
         case false =>
          replace H := ipf H
          obtain rfl := oin H
          have hz67 := cs5_ BK139
          have p147 : 0 ≤ (x7_4 : Int) := od
          have q147 : x7_4 < (l0_4.length : Int) := od
          obtain ⟨ad147, e147, hx147_0, hx147_1, hx147_2, hx147_3⟩ := at_T42 HR0_4.out x7_4 p147 q147
          cases e147
          replace hx147_0 := ox HB hx147_0
          replace hx147_1 := ox HB hx147_1
          replace hx147_2 := ox HB hx147_2
          replace hx147_3 := ox HB hx147_3
          replace p147 := eq_true p147
          replace q147 := eq_true q147
          go_wp2_with (first | ((with_reducible refine gq 8 rfl ?_); (try (refine gate_guard (by rfl) ?_; dsimp only)); refine bx1 HB BK139 (N := 8) (cs := #[.int .i64 0, .int .i64 0, .int .i64 0, .int .i64 0]) (t := 42) ?_; clear HB BK139; intro gb148 w68 BK148 GE148 HB NB139_148 NB148_139 BK139; have hnb69 := NB148_139.out; have hnc69 := NB139_148.out; have hz70 := cs4_ BK148) | (go_at_call 70; (with_reducible refine (spec_l1In.calls ((rd_T42 l0_4 x7_4).f1) 1 1000000 true _ A53.out).mono ?_); rintro e w' ⟨rfl, ⟨nd, rfl⟩⟩) | (go_at_call 70; (with_reducible refine (spec_l1In.calls ((rd_T42 l0_4 x7_4).f2) 0 20 false _ A55.out).mono ?_); rintro e w' ⟨rfl, ⟨nd, rfl⟩⟩))
          go_ret
          exact ⟨er, tb HB⟩
         replace H := ipt H
         obtain ⟨t151, A57, H⟩ := bn H
         try dsimp only at H
         cases t151
         case false =>
          replace H := ipf H
          obtain rfl := oin H
          have hz63 := cs5_ BK139
          have p147 : 0 ≤ (x7_4 : Int) := od
          have q147 : x7_4 < (l0_4.length : Int) := od
          obtain ⟨ad147, e147, hx147_0, hx147_1, hx147_2, hx147_3⟩ := at_T42 HR0_4.out x7_4 p147 q147
          cases e147
          replace hx147_0 := ox HB hx147_0
          replace hx147_1 := ox HB hx147_1
          replace hx147_2 := ox HB hx147_2
          replace hx147_3 := ox HB hx147_3
          replace p147 := eq_true p147
          replace q147 := eq_true q147
          go_wp2_with (first | ((with_reducible refine gq 8 rfl ?_); (try (refine gate_guard (by rfl) ?_; dsimp only)); refine bx1 HB BK139 (N := 8) (cs := #[.int .i64 0, .int .i64 0, .int .i64 0, .int .i64 0]) (t := 42) ?_; clear HB BK139; intro gb148 w64 BK148 GE148 HB NB139_148 NB148_139 BK139; have hnb65 := NB148_139.out; have hnc65 := NB139_148.out; have hz66 := cs4_ BK148) | (go_at_call 70; (with_reducible refine (spec_l1In.calls ((rd_T42 l0_4 x7_4).f1) 1 1000000 true _ A53.out).mono ?_); rintro e w' ⟨rfl, ⟨nd, rfl⟩⟩) | (go_at_call 70; (with_reducible refine (spec_l1In.calls ((rd_T42 l0_4 x7_4).f2) 0 20 true _ A55.out).mono ?_); rintro e w' ⟨rfl, ⟨nd, rfl⟩⟩) | (go_at_call 70; (with_reducible refine (spec_l1In.calls ((rd_T42 l0_4 x7_4).f3) 0 20 false _ A57.out).mono ?_); rintro e w' ⟨rfl, ⟨nd, rfl⟩⟩))
          go_ret
          exact ⟨er, tb HB⟩
         replace H := ipt H
         have H' := Aside0.mk H
         clear H
         have hz59 := cs5_ BK139
         have p147 : 0 ≤ (x7_4 : Int) := od
         have q147 : x7_4 < (l0_4.length : Int) := od
         obtain ⟨ad147, e147, hx147_0, hx147_1, hx147_2, hx147_3⟩ := at_T42 HR0_4.out x7_4 p147 q147
         cases e147
         replace hx147_0 := ox HB hx147_0
         replace hx147_1 := ox HB hx147_1
         replace hx147_2 := ox HB hx147_2
         replace hx147_3 := ox HB hx147_3
         replace p147 := eq_true p147
         replace q147 := eq_true q147
         go_wp2_with (first | ((with_reducible refine gq 8 rfl ?_); (try (refine gate_guard (by rfl) ?_; dsimp only)); refine bx1 HB BK139 (N := 8) (cs := #[.int .i64 0, .int .i64 0, .int .i64 0, .int .i64 0]) (t := 42) ?_; clear HB BK139; intro gb148 w60 BK148 GE148 HB NB139_148 NB148_139 BK139; have hnb61 := NB148_139.out; have hnc61 := NB139_148.out; have hz62 := cs4_ BK148) | (go_at_call 70; (with_reducible refine (spec_l1In.calls ((rd_T42 l0_4 x7_4).f1) 1 1000000 true _ A53.out).mono ?_); rintro e w' ⟨rfl, ⟨nd, rfl⟩⟩) | (go_at_call 70; (with_reducible refine (spec_l1In.calls ((rd_T42 l0_4 x7_4).f2) 0 20 true _ A55.out).mono ?_); rintro e w' ⟨rfl, ⟨nd, rfl⟩⟩) | (go_at_call 70; (with_reducible refine (spec_l1In.calls ((rd_T42 l0_4 x7_4).f3) 0 20 true _ A57.out).mono ?_); rintro e w' ⟨rfl, ⟨nd, rfl⟩⟩))
         go_roundg k4
         case measure => have := HJ2.out; have := HK2.out; have := HK3.out; have := HK4.out; omega
         case rel => exact ⟨(wrap64 (x7_4 + 1)), rsd, H', ⟨by have := HJ2.out; have := HK2.out; have := HK3.out; have := HK4.out; omega⟩, ⟨bf BK139⟩, ⟨tb HB⟩⟩
mutual
def spec_DescOk.j0 : Nat → Bool → Int → Int → List (S37) → Int → List Int → Option (Bool)
 | 0, _, _, _, _, _, _ => none
 | k + 1, x45, x153000, x153001, x153002, x153003, x153004 => if x45 = true then (some false) else (spec_DescOk.l0 k 0 x153000 x153001 x153002 x153003 x153004)
def spec_DescOk.l0 : Nat → Int → Int → Int → List (S37) → Int → List Int → Option (Bool)
 | 0, _, _, _, _, _, _ => none
 | k + 1, x3, x153000, x153001, x153002, x153003, x153004 => if x3 < (x153002.length : Int) then (if 0 ≤ x3 then ((spec_l1In.f ((rd_T37 x153002 x3).f0) 0 19).bind fun t157 => (if t157 = true then ((spec_l1In.f ((rd_T37 x153002 x3).f1) 0 1000).bind fun t158 => (if t158 = true then ((spec_l1In.f ((rd_T37 x153002 x3).f2) 0 1000).bind fun t159 => (if t159 = true then (if x3 > 0 then (if 0 ≤ (wrap64 (x3 - 1)) then (if (wrap64 (x3 - 1)) < (x153002.length : Int) then (if ((rd_T37 x153002 (wrap64 (x3 - 1))).f0) ≥ ((rd_T37 x153002 x3).f0) then (some false) else (spec_DescOk.l0 k (wrap64 (x3 + 1)) x153000 x153001 x153002 x153003 x153004)) else (none)) else (none)) else (spec_DescOk.l0 k (wrap64 (x3 + 1)) x153000 x153001 x153002 x153003 x153004)) else (some false))) else (some false))) else (some false))) else (none)) else (some true)
end
def spec_DescOk.f (k : Nat) (a0_0 : Int) (a0_1 : Int) (l0_2 : List (S37)) (a0_3 : Int) (l0_4 : List Int) : Option (Bool) := if a0_0 = 0 then (if a0_1 = 0 then (if (l0_2.length : Int) = 0 then (if a0_3 = 0 then (some ((l0_4.length : Int) == 0)) else (some false)) else (some false)) else (some false)) else ((spec_l1In.f a0_0 1 1000000).bind fun t153 => (if t153 = true then ((spec_l1In.f a0_1 1 3).bind fun t154 => (if t154 = true then (spec_DescOk.j0 k (decide ((l0_2.length : Int) > 20)) a0_0 a0_1 l0_2 a0_3 l0_4) else (spec_DescOk.j0 k true a0_0 a0_1 l0_2 a0_3 l0_4))) else (spec_DescOk.j0 k true a0_0 a0_1 l0_2 a0_3 l0_4)))
def spec_DescOk.T9 : Bool × List (List Nat × List Nat) := (true, [([], []), ([0], [0]), ([1], [1]), ([2], [2]), ([3, 2], [3]), ([4], [4]), ([5, 4], [4, 5]), ([6, 4, 4], [4, 6]), ([7, 4], [4, 7]), ([4, 8], [4, 8]), ([9, 7], [9]), ([10], [10]), ([11, 10], [10, 11]), ([12, 10, 10], [10, 12]), ([13, 10], [10, 13]), ([10, 14], [10, 14]), ([15, 13], [15]), ([16], [16]), ([17, 16], [16, 17]), ([18, 16, 16], [16, 18]), ([19], [19]), ([20, 19], [19, 20]), ([19], [19]), ([22, 19], [19, 22]), ([21, 23, 19], [19, 21, 23]), ([24, 19], [19, 24]), ([25, 19], [19, 25]), ([19], [19]), ([27, 19], [19, 27]), ([26, 28, 19], [19, 26, 28]), ([19, 29, 16], [16, 19, 29]), ([16, 30], [16, 30])])
def spec_DescOk.B9 : List Nat := [0, 1, 3, 7, 15, 31, 63, 127, 255, 511, 1023, 2047, 4095, 8191, 16383, 32767, 65535, 131071, 262143, 524287, 1048575, 2097151, 1048575, 5242879, 16777215, 33554431, 67108863, 1048575, 135266303, 536870911, 1073741823, 2147483647]
theorem spec_DescOk.tab9 : rtab .any (opsOf Tryz.f125 9) = spec_DescOk.T9 := by kernel_rfl
theorem spec_DescOk.bits9 : waitsOk spec_DescOk.T9.2 spec_DescOk.B9 = true := by kernel_rfl
set_option maxHeartbeats 8000000 in
set_option maxRecDepth 100000 in
theorem spec_DescOk.calls (k : Nat) (a0_0 : Int) (a0_1 : Int) (A0_2 : Option Addr) (c0_2 : Nat) (l0_2 : List (S37)) (a0_3 : Int) (A0_4 : Option Addr) (c0_4 : Nat) (l0_4 : List Int) (r : Bool) (w : World) (hr0_2 : Kd.C k37 w A0_2 l0_2.length l0_2) (hc0_2 : l0_2.length ≤ c0_2) (hr0_4 : Kd.C (Kd.int .i64) w A0_4 l0_4.length l0_4) (hc0_4 : l0_4.length ≤ c0_4) (h : spec_DescOk.f k a0_0 a0_1 l0_2 a0_3 l0_4 = some r) :
  Calls Tryz.prog 125 #[.agg #[.int .i64 a0_0, .int .i64 a0_1, .slice A0_2 l0_2.length c0_2, .int .i64 a0_3, .slice A0_4 l0_4.length c0_4]] w fun e w' => e = .returned (.bool r) ∧ Below w.heap.size w w' := by
 have hu52 := Tryz.underlying52
 have hu37 := Tryz.underlying37
 have HR0_2 := Aside0.mk hr0_2
 have HC0_2 := Aside0.mk hc0_2
 clear hr0_2 hc0_2
 have HR0_4 := Aside0.mk hr0_4
 have HC0_4 := Aside0.mk hc0_4
 clear hr0_4 hc0_4
 have HB := Aside0.mk (Below.refl w.heap.size w)
 have H := h
 clear h
 unfold spec_DescOk.f at H
 by_cases c2 : a0_0 = 0
 case pos =>
  rw [if_pos c2] at H
  have c2b0 : (a0_0 == 0) = true := beq_iff_eq.mpr c2
  have c2b1 : (a0_0 != 0) = false := bne_eq_false_iff_eq.mpr c2
  clear c2
  by_cases c3 : a0_1 = 0
  case neg =>
   rw [if_neg c3] at H
   have c3b0 : (a0_1 == 0) = false := beq_eq_false_iff_ne.mpr c3
   have c3b1 : (a0_1 != 0) = true := bne_iff_ne.mpr c3
   obtain rfl := oin H
   go_enter Tryz.func125, Tryz.ntmps125
   go_wp2_with (first | ((with_reducible refine gq 1 rfl ?_); (try (refine gate_guard (by rfl) ?_; dsimp only)); refine bx0 HB (N := 1) (t := 52) ?_; clear HB; intro gb152 w12 BK152 GE152 HB; have hz13 := cs5_ BK152))
   go_ret
   exact ⟨er, tb HB⟩
  rw [if_pos c3] at H
  have c3b0 : (a0_1 == 0) = true := beq_iff_eq.mpr c3
  have c3b1 : (a0_1 != 0) = false := bne_eq_false_iff_eq.mpr c3
  clear c3
  by_cases c4 : (l0_2.length : Int) = 0
  case neg =>
   rw [if_neg c4] at H
   have c4b0 : ((l0_2.length : Int) == 0) = false := beq_eq_false_iff_ne.mpr c4
   have c4b1 : ((l0_2.length : Int) != 0) = true := bne_iff_ne.mpr c4
   have c4b2 : ¬ (l0_2 = []) := fun h_ => c4 (by rw [h_]; rfl)
   obtain rfl := oin H
   go_enter Tryz.func125, Tryz.ntmps125
   go_wp2_with (first | ((with_reducible refine gq 1 rfl ?_); (try (refine gate_guard (by rfl) ?_; dsimp only)); refine bx0 HB (N := 1) (t := 52) ?_; clear HB; intro gb152 w10 BK152 GE152 HB; have hz11 := cs5_ BK152))
   go_ret
   exact ⟨er, tb HB⟩
  rw [if_pos c4] at H
  have c4b0 : ((l0_2.length : Int) == 0) = true := beq_iff_eq.mpr c4
  have c4b1 : ((l0_2.length : Int) != 0) = false := bne_eq_false_iff_eq.mpr c4
  clear c4
  by_cases c5 : a0_3 = 0
  case neg =>
   rw [if_neg c5] at H
   have c5b0 : (a0_3 == 0) = false := beq_eq_false_iff_ne.mpr c5
   have c5b1 : (a0_3 != 0) = true := bne_iff_ne.mpr c5
   obtain rfl := oin H
   go_enter Tryz.func125, Tryz.ntmps125
   go_wp2_with (first | ((with_reducible refine gq 1 rfl ?_); (try (refine gate_guard (by rfl) ?_; dsimp only)); refine bx0 HB (N := 1) (t := 52) ?_; clear HB; intro gb152 w8 BK152 GE152 HB; have hz9 := cs5_ BK152))
   go_ret
   exact ⟨er, tb HB⟩
  rw [if_pos c5] at H
  have c5b0 : (a0_3 == 0) = true := beq_iff_eq.mpr c5
  have c5b1 : (a0_3 != 0) = false := bne_eq_false_iff_eq.mpr c5
  clear c5
  obtain rfl := oin H
  go_enter Tryz.func125, Tryz.ntmps125
  go_wp2_with (first | ((with_reducible refine gq 1 rfl ?_); (try (refine gate_guard (by rfl) ?_; dsimp only)); refine bx0 HB (N := 1) (t := 52) ?_; clear HB; intro gb152 w6 BK152 GE152 HB; have hz7 := cs5_ BK152))
  go_ret
  exact ⟨er, tb HB⟩
 rw [if_neg c2] at H
 have c2b0 : (a0_0 == 0) = false := beq_eq_false_iff_ne.mpr c2
 have c2b1 : (a0_0 != 0) = true := bne_iff_ne.mpr c2
 have HC14 := Aside0.mk H
 clear H
 go_enter Tryz.func125, Tryz.ntmps125
 go_upto_region 3 with (first | ((with_reducible refine gq 1 rfl ?_); (try (refine gate_guard (by rfl) ?_; dsimp only)); refine bx0 HB (N := 1) (t := 52) ?_; clear HB; intro gb152 w15 BK152 GE152 HB; have hz16 := cs5_ BK152))
 (try simp only [Act.put, sA, sB, sC])
 go_cut [45] (fun v45 wc => ∃ (kq : Nat) (x45_13 : Bool), v45 = .bool x45_13 ∧ Aside0 (spec_DescOk.j0 kq x45_13 a0_0 a0_1 l0_2 a0_3 l0_4 = some r) ∧ Aside0 (kq ≤ k) ∧ Aside0 (wc.heap[gb152]? = some (.cells #[.int .i64 a0_0, .int .i64 a0_1, (.slice A0_2 l0_2.length c0_2), .int .i64 a0_3, (.slice A0_4 l0_4.length c0_4)] 52 (0, 0))) ∧ Aside0 (Below w.heap.size w wc))
 case first =>
  have H := HC14.out
  clear HC14
  obtain ⟨t153, A17, H⟩ := bn H
  try dsimp only at H
  cases t153
  case false =>
   replace H := ipf H
   have H' := Aside0.mk H
   clear H
   have hz23 := cs5_ BK152
   go_wp2_with (first | ((with_reducible refine gf 70 rfl ?_); refine gL 32 Tryz.func70 #[.int .i64 a0_0, .int .i64 1, .int .i64 1000000] ?_; (with_reducible refine (spec_l1In.calls a0_0 1 1000000 false _ A17.out).mono ?_); rintro e w' ⟨rfl, ⟨nd, rfl⟩⟩; refine ⟨_, rfl, ?_⟩))
   go_meet
   case rel => exact ⟨_, (true), rsd, H', ⟨by first | omega | exact Nat.le_refl _⟩, ⟨by (with_reducible repeat (first | refine blk_drewN ?_ _ | refine blk_drew ?_ | refine blk_alloc ?_ _)); exact BK152.out⟩, ⟨tb HB⟩⟩
  replace H := ipt H
  obtain ⟨t154, A19, H⟩ := bn H
  try dsimp only at H
  cases t154
  case true =>
   replace H := ipt H
   have H' := Aside0.mk H
   clear H
   have hz21 := cs5_ BK152
   go_wp2_with (first | ((with_reducible refine gf 70 rfl ?_); refine gL 32 Tryz.func70 #[.int .i64 a0_0, .int .i64 1, .int .i64 1000000] ?_; (with_reducible refine (spec_l1In.calls a0_0 1 1000000 true _ A17.out).mono ?_); rintro e w' ⟨rfl, ⟨nd, rfl⟩⟩; refine ⟨_, rfl, ?_⟩) | (go_at_call 70; (with_reducible refine (spec_l1In.calls a0_1 1 3 true _ A19.out).mono ?_); rintro e w' ⟨rfl, ⟨nd, rfl⟩⟩))
   go_meet
   case rel => exact ⟨_, (decide ((l0_2.length : Int) > 20)), rsd, H', ⟨by first | omega | exact Nat.le_refl _⟩, ⟨by (with_reducible repeat (first | refine blk_drewN ?_ _ | refine blk_drew ?_ | refine blk_alloc ?_ _)); exact BK152.out⟩, ⟨tb HB⟩⟩
  replace H := ipf H
  have H' := Aside0.mk H
  clear H
  have hz22 := cs5_ BK152
  go_wp2_with (first | ((with_reducible refine gf 70 rfl ?_); refine gL 32 Tryz.func70 #[.int .i64 a0_0, .int .i64 1, .int .i64 1000000] ?_; (with_reducible refine (spec_l1In.calls a0_0 1 1000000 true _ A17.out).mono ?_); rintro e w' ⟨rfl, ⟨nd, rfl⟩⟩; refine ⟨_, rfl, ?_⟩) | (go_at_call 70; (with_reducible refine (spec_l1In.calls a0_1 1 3 false _ A19.out).mono ?_); rintro e w' ⟨rfl, ⟨nd, rfl⟩⟩))
  go_meet
  case rel => exact ⟨_, (true), rsd, H', ⟨by first | omega | exact Nat.le_refl _⟩, ⟨by (with_reducible repeat (first | refine blk_drewN ?_ _ | refine blk_drew ?_ | refine blk_alloc ?_ _)); exact BK152.out⟩, ⟨tb HB⟩⟩
 case rest =>
  clear HC14
  try clear c1
  try clear c2
  try clear c2b0
  try clear c2b1
  try clear p2
  try clear c3
  try clear c3b0
  try clear c3b1
  try clear c4
  try clear c4b0
  try clear c4b1
  try clear c4b2
  try clear c5
  try clear c5b0
  try clear c5b1
  try clear c7
  try clear c12
  try clear c18
  try clear c20
  try clear hz11
  try clear hz13
  try clear hz16
  try clear hz21
  try clear hz22
  try clear hz23
  try clear hz7
  try clear hz9
  try clear hz11
  try clear hz13
  try clear hz16
  try clear hz21
  try clear hz22
  try clear hz23
  try clear hz7
  try clear hz9
  obtain ⟨kq, x45_13, rfl, HA, HJ13, BK152, HB⟩ := hcut
  cases kq with
  | zero => exact absurd HA.out (by simp [spec_DescOk.j0])
  | succ kj13 =>
   have H := HA.out
   clear HA
   simp only [spec_DescOk.j0] at H
   cases x45_13
   case true =>
    replace H := ipt H
    obtain rfl := oin H
    go_wp2
    go_ret
    exact ⟨er, tb HB⟩
   replace H := ipf H
   have H' := Aside0.mk H
   clear H
   go_wp2
   go_loopg [3] kj13 (fun kq v3 w' => ∃ (x3_2 : Int), v3 = .int .i64 x3_2 ∧ Aside0 (spec_DescOk.l0 kq x3_2 a0_0 a0_1 l0_2 a0_3 l0_4 = some r) ∧ Aside0 (kq ≤ kj13) ∧ Aside0 (w'.heap[gb152]? = some (.cells #[.int .i64 a0_0, .int .i64 a0_1, (.slice A0_2 l0_2.length c0_2), .int .i64 a0_3, (.slice A0_4 l0_4.length c0_4)] 52 (0, 0))) ∧ Aside0 (Below w.heap.size w w'))
   case atStart => exact ⟨(0), rsd, H', ⟨Nat.le_refl _⟩, ⟨by (with_reducible repeat (first | refine blk_drewN ?_ _ | refine blk_drew ?_ | refine blk_alloc ?_ _)); exact BK152.out⟩, ⟨tb HB⟩⟩
   case round =>
    clear H'
    try clear c1
    try clear c2
    try clear c2b0
    try clear c2b1
    try clear p2
    try clear c3
    try clear c3b0
    try clear c3b1
    try clear c4
    try clear c4b0
    try clear c4b1
    try clear c4b2
    try clear c5
    try clear c5b0
    try clear c5b1
    try clear c7
    try clear c12
    try clear c18
    try clear c20
    try clear c24
    try clear hz11
    try clear hz13
    try clear hz16
    try clear hz21
    try clear hz22
    try clear hz23
    try clear hz7
    try clear hz9
    try clear hz11
    try clear hz13
    try clear hz16
    try clear hz21
    try clear hz22
    try clear hz23
    try clear hz7
    try clear hz9
    try clear p2
    obtain ⟨x3_2, rfl, HA, HK2, BK152, HB⟩ := hrel
    cases gk with
    | zero => exact absurd HA.out (by simp [spec_DescOk.l0])
    | succ k2 =>
     have H := HA.out
     clear HA
     simp only [spec_DescOk.l0] at H
     revert H; refine icd (fun c25b0 H => ?_) fun c25b0 H => ?neg
     case neg =>
      obtain rfl := oin H
      have hz74 := cs5_ BK152
      go_wp2
      go_ret
      exact ⟨er, tb HB⟩
     obtain ⟨c26b0, H⟩ := itd H
     obtain ⟨t157, A27, H⟩ := bn H
     try dsimp only at H
     cases t157
     case false =>
      replace H := ipf H
      obtain rfl := oin H
      have hz68 := cs5_ BK152
      have p155 : 0 ≤ (x3_2 : Int) := od
      have q155 : x3_2 < (l0_2.length : Int) := od
      obtain ⟨ad155, e155, hx155⟩ := att37 HR0_2.out x3_2 p155 q155
      cases e155
      replace hx155 := ox3 HB hx155
      replace p155 := eq_true p155
      replace q155 := eq_true q155
      try go_wp2_with (first | ((with_reducible refine gq 4 rfl ?_); (try (refine gate_guard (by rfl) ?_; dsimp only)); refine bx1 HB BK152 (N := 4) (cs := #[.int .i64 0, .int .i64 0, .int .i64 0]) (t := 37) ?_; clear HB BK152; intro gb156 w69 BK156 GE156 HB NB152_156 NB156_152 BK152; have hnb70 := NB156_152.out; have hnc70 := NB152_156.out; have hz71 := cs3_ BK156))
      have n0_ : Aside0 ((((w69.setCell ⟨gb156, 0, none⟩ (.int .i64 ((rd_T37 l0_2 x3_2).f0))).setCell ⟨gb156, 1, none⟩ (.int .i64 ((rd_T37 l0_2 x3_2).f1))).setCell ⟨gb156, 2, none⟩ (.int .i64 ((rd_T37 l0_2 x3_2).f2))).heap[gb152]? = some (.cells #[.int .i64 a0_0, .int .i64 a0_1, .slice (some ad155) l0_2.length c0_2, .int .i64 a0_3, .slice A0_4 l0_4.length c0_4] 52 (0, 0))) := ⟨bf BK152⟩
      have n1_ : Aside0 ((((w69.setCell ⟨gb156, 0, none⟩ (.int .i64 ((rd_T37 l0_2 x3_2).f0))).setCell ⟨gb156, 1, none⟩ (.int .i64 ((rd_T37 l0_2 x3_2).f1))).setCell ⟨gb156, 2, none⟩ (.int .i64 ((rd_T37 l0_2 x3_2).f2))).heap[gb156]? = some (.cells #[.int .i64 ((rd_T37 l0_2 x3_2).f0), .int .i64 ((rd_T37 l0_2 x3_2).f1), .int .i64 ((rd_T37 l0_2 x3_2).f2)] 37 (0, 0))) := ⟨bfp3 BK156⟩
      have n2_ : Aside0 (Below w.heap.size w (((w69.setCell ⟨gb156, 0, none⟩ (.int .i64 ((rd_T37 l0_2 x3_2).f0))).setCell ⟨gb156, 1, none⟩ (.int .i64 ((rd_T37 l0_2 x3_2).f1))).setCell ⟨gb156, 2, none⟩ (.int .i64 ((rd_T37 l0_2 x3_2).f2)))) := ⟨tb HB⟩
      (try clear BK152)
      (try clear BK156)
      (try clear HB)
      generalize (((w69.setCell ⟨gb156, 0, none⟩ (.int .i64 ((rd_T37 l0_2 x3_2).f0))).setCell ⟨gb156, 1, none⟩ (.int .i64 ((rd_T37 l0_2 x3_2).f1))).setCell ⟨gb156, 2, none⟩ (.int .i64 ((rd_T37 l0_2 x3_2).f2))) = w72 at n0_ n1_ n2_ ⊢
      have BK152 := n0_
      have BK156 := n1_
      have HB := n2_
      clear n0_ n1_ n2_
      replace BK152 := bd BK152
      replace BK156 := bd BK156
      replace HB := Aside0.mk (below_drew1 HB.out)
      refine start_ (n := 32) (S := fun w' => cS3 gb156 (.int .i64 ((rd_T37 l0_2 x3_2).f0)) (.int .i64 ((rd_T37 l0_2 x3_2).f1)) (.int .i64 ((rd_T37 l0_2 x3_2).f2)) w') (ds := []) #[false, false, false, false, false, false, false, false, false, false, false, false, false, false, false, false, false, false, false, false, false, false, false, false, false, false, false, false, false, false, false, false] (by kernel_rfl) rfl rfl (ds3_ BK156) (fun hHeld => ?_); refine with_tabW spec_DescOk.tab9 spec_DescOk.bits9 (fun HT_ HW_ => ?_)
      generalize w72.drew = w73 at BK152 BK156 HB hHeld ⊢
      refine pu 0 58 ?_; refine ta 1 59 ?_
      refine on1 2 (some 60) (fun K hK => ?_)
      refine gS Tryz.func70 #[.int .i64 ((rd_T37 l0_2 x3_2).f0), .int .i64 0, .int .i64 19] ?_
      with_reducible refine (spec_l1In.calls ((rd_T37 l0_2 x3_2).f0) 0 19 false _ A27.out).mono ?_
      rintro e w' ⟨rfl, ⟨nd, rfl⟩⟩
      refine ⟨_, rfl, ?_⟩
      refine hK.out _ _ (ds3_ BK156) (fun hHeld => ?_)
      clear hK K
      refine nm 60 ?_
      refine pu 3 61 ?_; refine pu 4 62 ?_; refine pn 5 63 ?_; refine pn 6 64 ?_; refine pn 7 65 ?_; refine pn 8 66 ?_; refine pu 9 67 ?_; refine pu 10 68 ?_; refine pn 11 69 ?_; refine pn 12 70 ?_; refine pn 13 71 ?_; refine pn 14 72 ?_
      refine pu 15 73 ?_; refine pu 16 74 ?_; refine pn 17 75 ?_; refine pn 18 76 ?_; refine pn 19 77 ?_; refine pn 20 78 ?_; refine pn 21 79 ?_; refine pn 22 80 ?_; refine pn 23 81 ?_; refine pn 24 82 ?_; refine pn 25 83 ?_; refine pn 26 84 ?_
      refine pn 27 85 ?_; refine pn 28 86 ?_; refine pn 29 87 ?_; refine pn 30 88 ?_; refine pu 31 89 ?_
      refine done_ (done_of HT_.out (by kernel_rfl)) ?_
      try go_wp2
      go_ret
      exact ⟨er, tb HB⟩
     replace H := ipt H
     obtain ⟨t158, A29, H⟩ := bn H
     try dsimp only at H
     cases t158
     case false =>
      replace H := ipf H
      obtain rfl := oin H
      have hz62 := cs5_ BK152
      have p155 : 0 ≤ (x3_2 : Int) := od
      have q155 : x3_2 < (l0_2.length : Int) := od
      obtain ⟨ad155, e155, hx155_0, hx155_1, hx155_2⟩ := at_T37 HR0_2.out x3_2 p155 q155
      cases e155
      replace hx155_0 := ox HB hx155_0
      replace hx155_1 := ox HB hx155_1
      replace hx155_2 := ox HB hx155_2
      replace p155 := eq_true p155
      replace q155 := eq_true q155
      try go_wp2_with (first | ((with_reducible refine gq 4 rfl ?_); (try (refine gate_guard (by rfl) ?_; dsimp only)); refine bx1 HB BK152 (N := 4) (cs := #[.int .i64 0, .int .i64 0, .int .i64 0]) (t := 37) ?_; clear HB BK152; intro gb156 w63 BK156 GE156 HB NB152_156 NB156_152 BK152; have hnb64 := NB156_152.out; have hnc64 := NB152_156.out; have hz65 := cs3_ BK156))
      have n0_ : Aside0 ((((w63.setCell ⟨gb156, 0, none⟩ (.int .i64 ((rd_T37 l0_2 x3_2).f0))).setCell ⟨gb156, 1, none⟩ (.int .i64 ((rd_T37 l0_2 x3_2).f1))).setCell ⟨gb156, 2, none⟩ (.int .i64 ((rd_T37 l0_2 x3_2).f2))).heap[gb152]? = some (.cells #[.int .i64 a0_0, .int .i64 a0_1, .slice (some ad155) l0_2.length c0_2, .int .i64 a0_3, .slice A0_4 l0_4.length c0_4] 52 (0, 0))) := ⟨bf BK152⟩
      have n1_ : Aside0 ((((w63.setCell ⟨gb156, 0, none⟩ (.int .i64 ((rd_T37 l0_2 x3_2).f0))).setCell ⟨gb156, 1, none⟩ (.int .i64 ((rd_T37 l0_2 x3_2).f1))).setCell ⟨gb156, 2, none⟩ (.int .i64 ((rd_T37 l0_2 x3_2).f2))).heap[gb156]? = some (.cells #[.int .i64 ((rd_T37 l0_2 x3_2).f0), .int .i64 ((rd_T37 l0_2 x3_2).f1), .int .i64 ((rd_T37 l0_2 x3_2).f2)] 37 (0, 0))) := ⟨bfp3 BK156⟩
      have n2_ : Aside0 (Below w.heap.size w (((w63.setCell ⟨gb156, 0, none⟩ (.int .i64 ((rd_T37 l0_2 x3_2).f0))).setCell ⟨gb156, 1, none⟩ (.int .i64 ((rd_T37 l0_2 x3_2).f1))).setCell ⟨gb156, 2, none⟩ (.int .i64 ((rd_T37 l0_2 x3_2).f2)))) := ⟨tb HB⟩
      (try clear BK152)
      (try clear BK156)
      (try clear HB)
      generalize (((w63.setCell ⟨gb156, 0, none⟩ (.int .i64 ((rd_T37 l0_2 x3_2).f0))).setCell ⟨gb156, 1, none⟩ (.int .i64 ((rd_T37 l0_2 x3_2).f1))).setCell ⟨gb156, 2, none⟩ (.int .i64 ((rd_T37 l0_2 x3_2).f2))) = w66 at n0_ n1_ n2_ ⊢
      have BK152 := n0_
      have BK156 := n1_
      have HB := n2_
      clear n0_ n1_ n2_
      replace BK152 := bd BK152
      replace BK156 := bd BK156
      replace HB := Aside0.mk (below_drew1 HB.out)
      refine start_ (n := 32) (S := fun w' => cS3 gb156 (.int .i64 ((rd_T37 l0_2 x3_2).f0)) (.int .i64 ((rd_T37 l0_2 x3_2).f1)) (.int .i64 ((rd_T37 l0_2 x3_2).f2)) w') (ds := []) #[false, false, false, false, false, false, false, false, false, false, false, false, false, false, false, false, false, false, false, false, false, false, false, false, false, false, false, false, false, false, false, false] (by kernel_rfl) rfl rfl (ds3_ BK156) (fun hHeld => ?_); refine with_tabW spec_DescOk.tab9 spec_DescOk.bits9 (fun HT_ HW_ => ?_)
      generalize w66.drew = w67 at BK152 BK156 HB hHeld ⊢
      refine pu 0 58 ?_; refine ta 1 59 ?_
      refine on1 2 (some 60) (fun K hK => ?_)
      refine gS Tryz.func70 #[.int .i64 ((rd_T37 l0_2 x3_2).f0), .int .i64 0, .int .i64 19] ?_
      with_reducible refine (spec_l1In.calls ((rd_T37 l0_2 x3_2).f0) 0 19 true _ A27.out).mono ?_
      rintro e w' ⟨rfl, ⟨nd, rfl⟩⟩
      refine ⟨_, rfl, ?_⟩
      refine hK.out _ _ (ds3_ BK156) (fun hHeld => ?_)
      clear hK K
      refine nm 60 ?_
      refine pu 3 61 ?_; refine pu 4 62 ?_; refine pu 5 63 ?_; refine ta 6 64 ?_
      refine on1 7 (some 65) (fun K hK => ?_)
      refine gS Tryz.func70 #[.int .i64 ((rd_T37 l0_2 x3_2).f1), .int .i64 0, .int .i64 1000] ?_
      with_reducible refine (spec_l1In.calls ((rd_T37 l0_2 x3_2).f1) 0 1000 false _ A29.out).mono ?_
      rintro e w' ⟨rfl, ⟨nd, rfl⟩⟩
      refine ⟨_, rfl, ?_⟩
      refine hK.out _ _ (ds3_ BK156) (fun hHeld => ?_)
      clear hK K
      refine nm 65 ?_
      refine pu 8 66 ?_; refine pu 9 67 ?_; refine pu 10 68 ?_; refine pn 11 69 ?_; refine pn 12 70 ?_; refine pn 13 71 ?_; refine pn 14 72 ?_; refine pu 15 73 ?_; refine pu 16 74 ?_; refine pn 17 75 ?_; refine pn 18 76 ?_; refine pn 19 77 ?_
      refine pn 20 78 ?_; refine pn 21 79 ?_; refine pn 22 80 ?_; refine pn 23 81 ?_; refine pn 24 82 ?_; refine pn 25 83 ?_; refine pn 26 84 ?_; refine pn 27 85 ?_; refine pn 28 86 ?_; refine pn 29 87 ?_; refine pn 30 88 ?_; refine pu 31 89 ?_
      refine done_ (done_of HT_.out (by kernel_rfl)) ?_
      try go_wp2
      go_ret
      exact ⟨er, tb HB⟩
     replace H := ipt H
     obtain ⟨t159, A31, H⟩ := bn H
     try dsimp only at H
     cases t159
     case false =>
      replace H := ipf H
      obtain rfl := oin H
      have hz56 := cs5_ BK152
      have p155 : 0 ≤ (x3_2 : Int) := od
      have q155 : x3_2 < (l0_2.length : Int) := od
      obtain ⟨ad155, e155, hx155_0, hx155_1, hx155_2⟩ := at_T37 HR0_2.out x3_2 p155 q155
      cases e155
      replace hx155_0 := ox HB hx155_0
      replace hx155_1 := ox HB hx155_1
      replace hx155_2 := ox HB hx155_2
      replace p155 := eq_true p155
      replace q155 := eq_true q155
      try go_wp2_with (first | ((with_reducible refine gq 4 rfl ?_); (try (refine gate_guard (by rfl) ?_; dsimp only)); refine bx1 HB BK152 (N := 4) (cs := #[.int .i64 0, .int .i64 0, .int .i64 0]) (t := 37) ?_; clear HB BK152; intro gb156 w57 BK156 GE156 HB NB152_156 NB156_152 BK152; have hnb58 := NB156_152.out; have hnc58 := NB152_156.out; have hz59 := cs3_ BK156))
      have n0_ : Aside0 ((((w57.setCell ⟨gb156, 0, none⟩ (.int .i64 ((rd_T37 l0_2 x3_2).f0))).setCell ⟨gb156, 1, none⟩ (.int .i64 ((rd_T37 l0_2 x3_2).f1))).setCell ⟨gb156, 2, none⟩ (.int .i64 ((rd_T37 l0_2 x3_2).f2))).heap[gb152]? = some (.cells #[.int .i64 a0_0, .int .i64 a0_1, .slice (some ad155) l0_2.length c0_2, .int .i64 a0_3, .slice A0_4 l0_4.length c0_4] 52 (0, 0))) := ⟨bf BK152⟩
      have n1_ : Aside0 ((((w57.setCell ⟨gb156, 0, none⟩ (.int .i64 ((rd_T37 l0_2 x3_2).f0))).setCell ⟨gb156, 1, none⟩ (.int .i64 ((rd_T37 l0_2 x3_2).f1))).setCell ⟨gb156, 2, none⟩ (.int .i64 ((rd_T37 l0_2 x3_2).f2))).heap[gb156]? = some (.cells #[.int .i64 ((rd_T37 l0_2 x3_2).f0), .int .i64 ((rd_T37 l0_2 x3_2).f1), .int .i64 ((rd_T37 l0_2 x3_2).f2)] 37 (0, 0))) := ⟨bfp3 BK156⟩
      have n2_ : Aside0 (Below w.heap.size w (((w57.setCell ⟨gb156, 0, none⟩ (.int .i64 ((rd_T37 l0_2 x3_2).f0))).setCell ⟨gb156, 1, none⟩ (.int .i64 ((rd_T37 l0_2 x3_2).f1))).setCell ⟨gb156, 2, none⟩ (.int .i64 ((rd_T37 l0_2 x3_2).f2)))) := ⟨tb HB⟩
      (try clear BK152)
      (try clear BK156)
      (try clear HB)
      generalize (((w57.setCell ⟨gb156, 0, none⟩ (.int .i64 ((rd_T37 l0_2 x3_2).f0))).setCell ⟨gb156, 1, none⟩ (.int .i64 ((rd_T37 l0_2 x3_2).f1))).setCell ⟨gb156, 2, none⟩ (.int .i64 ((rd_T37 l0_2 x3_2).f2))) = w60 at n0_ n1_ n2_ ⊢
      have BK152 := n0_
      have BK156 := n1_
      have HB := n2_
      clear n0_ n1_ n2_
      replace BK152 := bd BK152
      replace BK156 := bd BK156
      replace HB := Aside0.mk (below_drew1 HB.out)
      refine start_ (n := 32) (S := fun w' => cS3 gb156 (.int .i64 ((rd_T37 l0_2 x3_2).f0)) (.int .i64 ((rd_T37 l0_2 x3_2).f1)) (.int .i64 ((rd_T37 l0_2 x3_2).f2)) w') (ds := []) #[false, false, false, false, false, false, false, false, false, false, false, false, false, false, false, false, false, false, false, false, false, false, false, false, false, false, false, false, false, false, false, false] (by kernel_rfl) rfl rfl (ds3_ BK156) (fun hHeld => ?_); refine with_tabW spec_DescOk.tab9 spec_DescOk.bits9 (fun HT_ HW_ => ?_)
      generalize w60.drew = w61 at BK152 BK156 HB hHeld ⊢
      refine pu 0 58 ?_; refine ta 1 59 ?_
      refine on1 2 (some 60) (fun K hK => ?_)
      refine gS Tryz.func70 #[.int .i64 ((rd_T37 l0_2 x3_2).f0), .int .i64 0, .int .i64 19] ?_
      with_reducible refine (spec_l1In.calls ((rd_T37 l0_2 x3_2).f0) 0 19 true _ A27.out).mono ?_
      rintro e w' ⟨rfl, ⟨nd, rfl⟩⟩
      refine ⟨_, rfl, ?_⟩
      refine hK.out _ _ (ds3_ BK156) (fun hHeld => ?_)
      clear hK K
      refine nm 60 ?_
      refine pu 3 61 ?_; refine pu 4 62 ?_; refine pu 5 63 ?_; refine ta 6 64 ?_
      refine on1 7 (some 65) (fun K hK => ?_)
      refine gS Tryz.func70 #[.int .i64 ((rd_T37 l0_2 x3_2).f1), .int .i64 0, .int .i64 1000] ?_
      with_reducible refine (spec_l1In.calls ((rd_T37 l0_2 x3_2).f1) 0 1000 true _ A29.out).mono ?_
      rintro e w' ⟨rfl, ⟨nd, rfl⟩⟩
      refine ⟨_, rfl, ?_⟩
      refine hK.out _ _ (ds3_ BK156) (fun hHeld => ?_)
      clear hK K
      refine nm 65 ?_
      refine pu 8 66 ?_; refine pu 9 67 ?_; refine pu 10 68 ?_; refine pu 11 69 ?_; refine ta 12 70 ?_
      refine on1 13 (some 71) (fun K hK => ?_)
      refine gS Tryz.func70 #[.int .i64 ((rd_T37 l0_2 x3_2).f2), .int .i64 0, .int .i64 1000] ?_
      with_reducible refine (spec_l1In.calls ((rd_T37 l0_2 x3_2).f2) 0 1000 false _ A31.out).mono ?_
      rintro e w' ⟨rfl, ⟨nd, rfl⟩⟩
      refine ⟨_, rfl, ?_⟩
      refine hK.out _ _ (ds3_ BK156) (fun hHeld => ?_)
      clear hK K
      refine nm 71 ?_
      refine pu 14 72 ?_; refine pu 15 73 ?_; refine pu 16 74 ?_; refine pn 17 75 ?_; refine pn 18 76 ?_; refine pn 19 77 ?_; refine pn 20 78 ?_; refine pn 21 79 ?_; refine pn 22 80 ?_; refine pn 23 81 ?_; refine pn 24 82 ?_; refine pn 25 83 ?_
      refine pn 26 84 ?_; refine pn 27 85 ?_; refine pn 28 86 ?_; refine pn 29 87 ?_; refine pn 30 88 ?_; refine pu 31 89 ?_
      refine done_ (done_of HT_.out (by kernel_rfl)) ?_
      try go_wp2
      go_ret
      exact ⟨er, tb HB⟩
     replace H := ipt H
     revert H; refine icd (fun c33b0 H => ?_) fun c33b0 H => ?neg
     case neg =>
      have H' := Aside0.mk H
      clear H
      have hz50 := cs5_ BK152
      have p155 : 0 ≤ (x3_2 : Int) := od
      have q155 : x3_2 < (l0_2.length : Int) := od
      obtain ⟨ad155, e155, hx155_0, hx155_1, hx155_2⟩ := at_T37 HR0_2.out x3_2 p155 q155
      cases e155
      replace hx155_0 := ox HB hx155_0
      replace hx155_1 := ox HB hx155_1
      replace hx155_2 := ox HB hx155_2
      replace p155 := eq_true p155
      replace q155 := eq_true q155
      try go_wp2_with (first | ((with_reducible refine gq 4 rfl ?_); (try (refine gate_guard (by rfl) ?_; dsimp only)); refine bx1 HB BK152 (N := 4) (cs := #[.int .i64 0, .int .i64 0, .int .i64 0]) (t := 37) ?_; clear HB BK152; intro gb156 w51 BK156 GE156 HB NB152_156 NB156_152 BK152; have hnb52 := NB156_152.out; have hnc52 := NB152_156.out; have hz53 := cs3_ BK156))
      have n0_ : Aside0 ((((w51.setCell ⟨gb156, 0, none⟩ (.int .i64 ((rd_T37 l0_2 x3_2).f0))).setCell ⟨gb156, 1, none⟩ (.int .i64 ((rd_T37 l0_2 x3_2).f1))).setCell ⟨gb156, 2, none⟩ (.int .i64 ((rd_T37 l0_2 x3_2).f2))).heap[gb152]? = some (.cells #[.int .i64 a0_0, .int .i64 a0_1, .slice (some ad155) l0_2.length c0_2, .int .i64 a0_3, .slice A0_4 l0_4.length c0_4] 52 (0, 0))) := ⟨bf BK152⟩
      have n1_ : Aside0 ((((w51.setCell ⟨gb156, 0, none⟩ (.int .i64 ((rd_T37 l0_2 x3_2).f0))).setCell ⟨gb156, 1, none⟩ (.int .i64 ((rd_T37 l0_2 x3_2).f1))).setCell ⟨gb156, 2, none⟩ (.int .i64 ((rd_T37 l0_2 x3_2).f2))).heap[gb156]? = some (.cells #[.int .i64 ((rd_T37 l0_2 x3_2).f0), .int .i64 ((rd_T37 l0_2 x3_2).f1), .int .i64 ((rd_T37 l0_2 x3_2).f2)] 37 (0, 0))) := ⟨bfp3 BK156⟩
      have n2_ : Aside0 (Below w.heap.size w (((w51.setCell ⟨gb156, 0, none⟩ (.int .i64 ((rd_T37 l0_2 x3_2).f0))).setCell ⟨gb156, 1, none⟩ (.int .i64 ((rd_T37 l0_2 x3_2).f1))).setCell ⟨gb156, 2, none⟩ (.int .i64 ((rd_T37 l0_2 x3_2).f2)))) := ⟨tb HB⟩
      (try clear BK152)
      (try clear BK156)
      (try clear HB)
      generalize (((w51.setCell ⟨gb156, 0, none⟩ (.int .i64 ((rd_T37 l0_2 x3_2).f0))).setCell ⟨gb156, 1, none⟩ (.int .i64 ((rd_T37 l0_2 x3_2).f1))).setCell ⟨gb156, 2, none⟩ (.int .i64 ((rd_T37 l0_2 x3_2).f2))) = w54 at n0_ n1_ n2_ ⊢
      have BK152 := n0_
      have BK156 := n1_
      have HB := n2_
      clear n0_ n1_ n2_
      replace BK152 := bd BK152
      replace BK156 := bd BK156
      replace HB := Aside0.mk (below_drew1 HB.out)
      refine start_ (n := 32) (S := fun w' => cS3 gb156 (.int .i64 ((rd_T37 l0_2 x3_2).f0)) (.int .i64 ((rd_T37 l0_2 x3_2).f1)) (.int .i64 ((rd_T37 l0_2 x3_2).f2)) w') (ds := []) #[false, false, false, false, false, false, false, false, false, false, false, false, false, false, false, false, false, false, false, false, false, false, false, false, false, false, false, false, false, false, false, false] (by kernel_rfl) rfl rfl (ds3_ BK156) (fun hHeld => ?_); refine with_tabW spec_DescOk.tab9 spec_DescOk.bits9 (fun HT_ HW_ => ?_)
      generalize w54.drew = w55 at BK152 BK156 HB hHeld ⊢
      refine pu 0 58 ?_; refine ta 1 59 ?_
      refine on1 2 (some 60) (fun K hK => ?_)
      refine gS Tryz.func70 #[.int .i64 ((rd_T37 l0_2 x3_2).f0), .int .i64 0, .int .i64 19] ?_
      with_reducible refine (spec_l1In.calls ((rd_T37 l0_2 x3_2).f0) 0 19 true _ A27.out).mono ?_
      rintro e w' ⟨rfl, ⟨nd, rfl⟩⟩
      refine ⟨_, rfl, ?_⟩
      refine hK.out _ _ (ds3_ BK156) (fun hHeld => ?_)
      clear hK K
      refine nm 60 ?_
      refine pu 3 61 ?_; refine pu 4 62 ?_; refine pu 5 63 ?_; refine ta 6 64 ?_
      refine on1 7 (some 65) (fun K hK => ?_)
      refine gS Tryz.func70 #[.int .i64 ((rd_T37 l0_2 x3_2).f1), .int .i64 0, .int .i64 1000] ?_
      with_reducible refine (spec_l1In.calls ((rd_T37 l0_2 x3_2).f1) 0 1000 true _ A29.out).mono ?_
      rintro e w' ⟨rfl, ⟨nd, rfl⟩⟩
      refine ⟨_, rfl, ?_⟩
      refine hK.out _ _ (ds3_ BK156) (fun hHeld => ?_)
      clear hK K
      refine nm 65 ?_
      refine pu 8 66 ?_; refine pu 9 67 ?_; refine pu 10 68 ?_; refine pu 11 69 ?_; refine ta 12 70 ?_
      refine on1 13 (some 71) (fun K hK => ?_)
      refine gS Tryz.func70 #[.int .i64 ((rd_T37 l0_2 x3_2).f2), .int .i64 0, .int .i64 1000] ?_
      with_reducible refine (spec_l1In.calls ((rd_T37 l0_2 x3_2).f2) 0 1000 true _ A31.out).mono ?_
      rintro e w' ⟨rfl, ⟨nd, rfl⟩⟩
      refine ⟨_, rfl, ?_⟩
      refine hK.out _ _ (ds3_ BK156) (fun hHeld => ?_)
      clear hK K
      refine nm 71 ?_
      refine pu 14 72 ?_; refine pu 15 73 ?_; refine pu 16 74 ?_; refine pu 17 75 ?_; refine pu 18 76 ?_; refine pu 19 77 ?_; refine pn 20 78 ?_; refine pn 21 79 ?_; refine pn 22 80 ?_; refine pn 23 81 ?_; refine pn 24 82 ?_; refine pn 25 83 ?_
      refine pn 26 84 ?_; refine pn 27 85 ?_; refine pn 28 86 ?_; refine pn 29 87 ?_; refine pu 30 88 ?_; refine pu 31 89 ?_
      refine done_ (done_of HT_.out (by kernel_rfl)) ?_
      try go_wp2
      go_roundg k2
      case measure => have := HJ13.out; have := HK2.out; omega
      case rel => exact ⟨(wrap64 (x3_2 + 1)), rsd, H', ⟨by have := HJ13.out; have := HK2.out; omega⟩, ⟨by (with_reducible repeat (first | refine blk_drewN ?_ _ | refine blk_drew ?_ | refine blk_alloc ?_ _)); exact BK152.out⟩, ⟨tb HB⟩⟩
     obtain ⟨ji34, hji34⟩ : ∃ j_ : Int, (wrap64 (x3_2 - 1)) = j_ := ⟨_, rfl⟩
     replace H : (if 0 ≤ (ji34) then (if (ji34) < (l0_2.length : Int) then (if ((rd_T37 l0_2 (ji34)).f0) ≥ ((rd_T37 l0_2 x3_2).f0) then (some false) else (spec_DescOk.l0 k2 (wrap64 (x3_2 + 1)) a0_0 a0_1 l0_2 a0_3 l0_4)) else (none)) else (none)) = some r := by first | (rw [hji34] at H; exact H) | (simp only [hji34] at H ⊢; exact H)
     (try rw [hji34] at A27)
     (try rw [hji34] at A29)
     (try rw [hji34] at A31)
     have hji34w : (IntKind.i64.wrap (x3_2 - 1)) = ji34 := (i64_w _).trans hji34
     obtain ⟨c35b0, H⟩ := itd H
     obtain ⟨c36b0, H⟩ := itd H
     revert H; refine icd (fun c37b0 H => ?pos) fun c37b0 H => ?_
     case pos =>
      obtain rfl := oin H
      have hz38 := cs5_ BK152
      have p155 : 0 ≤ (x3_2 : Int) := od
      have q155 : x3_2 < (l0_2.length : Int) := od
      obtain ⟨ad155, e155, hx155_0, hx155_1, hx155_2⟩ := at_T37 HR0_2.out x3_2 p155 q155
      cases e155
      replace hx155_0 := ox HB hx155_0
      replace hx155_1 := ox HB hx155_1
      replace hx155_2 := ox HB hx155_2
      replace p155 := eq_true p155
      replace q155 := eq_true q155
      try go_wp2_with (first | ((with_reducible refine gq 4 rfl ?_); (try (refine gate_guard (by rfl) ?_; dsimp only)); refine bx1 HB BK152 (N := 4) (cs := #[.int .i64 0, .int .i64 0, .int .i64 0]) (t := 37) ?_; clear HB BK152; intro gb156 w39 BK156 GE156 HB NB152_156 NB156_152 BK152; have hnb40 := NB156_152.out; have hnc40 := NB152_156.out; have hz41 := cs3_ BK156))
      have n0_ : Aside0 ((((w39.setCell ⟨gb156, 0, none⟩ (.int .i64 ((rd_T37 l0_2 x3_2).f0))).setCell ⟨gb156, 1, none⟩ (.int .i64 ((rd_T37 l0_2 x3_2).f1))).setCell ⟨gb156, 2, none⟩ (.int .i64 ((rd_T37 l0_2 x3_2).f2))).heap[gb152]? = some (.cells #[.int .i64 a0_0, .int .i64 a0_1, .slice (some ad155) l0_2.length c0_2, .int .i64 a0_3, .slice A0_4 l0_4.length c0_4] 52 (0, 0))) := ⟨bf BK152⟩
      have n1_ : Aside0 ((((w39.setCell ⟨gb156, 0, none⟩ (.int .i64 ((rd_T37 l0_2 x3_2).f0))).setCell ⟨gb156, 1, none⟩ (.int .i64 ((rd_T37 l0_2 x3_2).f1))).setCell ⟨gb156, 2, none⟩ (.int .i64 ((rd_T37 l0_2 x3_2).f2))).heap[gb156]? = some (.cells #[.int .i64 ((rd_T37 l0_2 x3_2).f0), .int .i64 ((rd_T37 l0_2 x3_2).f1), .int .i64 ((rd_T37 l0_2 x3_2).f2)] 37 (0, 0))) := ⟨bfp3 BK156⟩
      have n2_ : Aside0 (Below w.heap.size w (((w39.setCell ⟨gb156, 0, none⟩ (.int .i64 ((rd_T37 l0_2 x3_2).f0))).setCell ⟨gb156, 1, none⟩ (.int .i64 ((rd_T37 l0_2 x3_2).f1))).setCell ⟨gb156, 2, none⟩ (.int .i64 ((rd_T37 l0_2 x3_2).f2)))) := ⟨tb HB⟩
      (try clear BK152)
      (try clear BK156)
      (try clear HB)
      generalize (((w39.setCell ⟨gb156, 0, none⟩ (.int .i64 ((rd_T37 l0_2 x3_2).f0))).setCell ⟨gb156, 1, none⟩ (.int .i64 ((rd_T37 l0_2 x3_2).f1))).setCell ⟨gb156, 2, none⟩ (.int .i64 ((rd_T37 l0_2 x3_2).f2))) = w42 at n0_ n1_ n2_ ⊢
      have BK152 := n0_
      have BK156 := n1_
      have HB := n2_
      clear n0_ n1_ n2_
      replace BK152 := bd BK152
      replace BK156 := bd BK156
      replace HB := Aside0.mk (below_drew1 HB.out)
      have p160 : 0 ≤ ((ji34) : Int) := od
      have q160 : (ji34) < (l0_2.length : Int) := od
      obtain ⟨ad160, e160, hx160⟩ := att37 HR0_2.out (ji34) p160 q160
      have hw160 := hx160
      obtain rfl : ad155 = ad160 := (by injection e160)
      replace hx160 := ox3 HB hx160
      replace p160 := eq_true p160
      replace q160 := eq_true q160
      refine start_ (n := 32) (S := fun w' => cS3 gb156 (.int .i64 ((rd_T37 l0_2 x3_2).f0)) (.int .i64 ((rd_T37 l0_2 x3_2).f1)) (.int .i64 ((rd_T37 l0_2 x3_2).f2)) w' ∧ cS5 gb152 (.int .i64 a0_0) (.int .i64 a0_1) (.slice (some ad155) l0_2.length c0_2) (.int .i64 a0_3) (.slice A0_4 l0_4.length c0_4) w' ∧ eT37 (ad155.add (((ji34)).toNat * 3)) (rd_T37 l0_2 (ji34)) w') (ds := []) #[false, false, false, false, false, false, false, false, false, false, false, false, false, false, false, false, false, false, false, false, false, false, false, false, false, false, false, false, false, false, false, false] (by kernel_rfl) rfl rfl ⟨ds3_ BK156, ds5_ BK152, (ox3 HB hw160 :)⟩ (fun hHeld => ?_); refine with_tabW spec_DescOk.tab9 spec_DescOk.bits9 (fun HT_ HW_ => ?_)
      generalize w42.drew = w43 at BK152 BK156 HB hx160 hHeld ⊢
      refine pu 0 58 ?_; refine ta 1 59 ?_
      refine on1 2 (some 60) (fun K hK => ?_)
      refine gS Tryz.func70 #[.int .i64 ((rd_T37 l0_2 x3_2).f0), .int .i64 0, .int .i64 19] ?_
      with_reducible refine (spec_l1In.calls ((rd_T37 l0_2 x3_2).f0) 0 19 true _ A27.out).mono ?_
      rintro e w' ⟨rfl, ⟨nd, rfl⟩⟩
      refine ⟨_, rfl, ?_⟩
      refine hK.out _ _ ⟨ds3_ BK156, ds5_ BK152, (ox3 HB hw160 :)⟩ (fun hHeld => ?_)
      clear hK K
      refine nm 60 ?_
      refine pu 3 61 ?_; refine pu 4 62 ?_; refine pu 5 63 ?_; refine ta 6 64 ?_
      refine on1 7 (some 65) (fun K hK => ?_)
      refine gS Tryz.func70 #[.int .i64 ((rd_T37 l0_2 x3_2).f1), .int .i64 0, .int .i64 1000] ?_
      with_reducible refine (spec_l1In.calls ((rd_T37 l0_2 x3_2).f1) 0 1000 true _ A29.out).mono ?_
      rintro e w' ⟨rfl, ⟨nd, rfl⟩⟩
      refine ⟨_, rfl, ?_⟩
      refine hK.out _ _ ⟨ds3_ BK156, ds5_ BK152, (ox3 HB hw160 :)⟩ (fun hHeld => ?_)
      clear hK K
      refine nm 65 ?_
      refine pu 8 66 ?_; refine pu 9 67 ?_; refine pu 10 68 ?_; refine pu 11 69 ?_; refine ta 12 70 ?_
      refine on1 13 (some 71) (fun K hK => ?_)
      refine gS Tryz.func70 #[.int .i64 ((rd_T37 l0_2 x3_2).f2), .int .i64 0, .int .i64 1000] ?_
      with_reducible refine (spec_l1In.calls ((rd_T37 l0_2 x3_2).f2) 0 1000 true _ A31.out).mono ?_
      rintro e w' ⟨rfl, ⟨nd, rfl⟩⟩
      refine ⟨_, rfl, ?_⟩
      refine hK.out _ _ ⟨ds3_ BK156, ds5_ BK152, (ox3 HB hw160 :)⟩ (fun hHeld => ?_)
      clear hK K
      refine nm 71 ?_
      refine pu 14 72 ?_; refine pu 15 73 ?_; refine pu 16 74 ?_; refine pu 17 75 ?_; refine pu 18 76 ?_; refine pu 19 77 ?_; refine pu 20 78 ?_; refine pu 22 80 ?_; refine pu 23 81 ?_; refine pu 27 85 ?_; refine ta 21 79 ?_; refine pu 24 82 ?_
      refine pu 25 83 ?_; refine ta 26 84 ?_; refine ta 28 86 ?_; refine pu 29 87 ?_; refine pu 30 88 ?_; refine pu 31 89 ?_
      refine done_ (done_of HT_.out (by kernel_rfl)) ?_
      try go_wp2
      go_ret
      exact ⟨by first | rfl | (simp [errW_none, errW_some] <;> rfl) | (simp only [← hji34]; first | rfl | (simp [errW_none, errW_some] <;> rfl)) | (simp [*, errW_none, errW_some] <;> rfl), tb HB⟩
     have H' := Aside0.mk H
     clear H
     have hz44 := cs5_ BK152
     have p155 : 0 ≤ (x3_2 : Int) := od
     have q155 : x3_2 < (l0_2.length : Int) := od
     obtain ⟨ad155, e155, hx155_0, hx155_1, hx155_2⟩ := at_T37 HR0_2.out x3_2 p155 q155
     cases e155
     replace hx155_0 := ox HB hx155_0
     replace hx155_1 := ox HB hx155_1
     replace hx155_2 := ox HB hx155_2
     replace p155 := eq_true p155
     replace q155 := eq_true q155
     try go_wp2_with (first | ((with_reducible refine gq 4 rfl ?_); (try (refine gate_guard (by rfl) ?_; dsimp only)); refine bx1 HB BK152 (N := 4) (cs := #[.int .i64 0, .int .i64 0, .int .i64 0]) (t := 37) ?_; clear HB BK152; intro gb156 w45 BK156 GE156 HB NB152_156 NB156_152 BK152; have hnb46 := NB156_152.out; have hnc46 := NB152_156.out; have hz47 := cs3_ BK156))
     have n0_ : Aside0 ((((w45.setCell ⟨gb156, 0, none⟩ (.int .i64 ((rd_T37 l0_2 x3_2).f0))).setCell ⟨gb156, 1, none⟩ (.int .i64 ((rd_T37 l0_2 x3_2).f1))).setCell ⟨gb156, 2, none⟩ (.int .i64 ((rd_T37 l0_2 x3_2).f2))).heap[gb152]? = some (.cells #[.int .i64 a0_0, .int .i64 a0_1, .slice (some ad155) l0_2.length c0_2, .int .i64 a0_3, .slice A0_4 l0_4.length c0_4] 52 (0, 0))) := ⟨bf BK152⟩
     have n1_ : Aside0 ((((w45.setCell ⟨gb156, 0, none⟩ (.int .i64 ((rd_T37 l0_2 x3_2).f0))).setCell ⟨gb156, 1, none⟩ (.int .i64 ((rd_T37 l0_2 x3_2).f1))).setCell ⟨gb156, 2, none⟩ (.int .i64 ((rd_T37 l0_2 x3_2).f2))).heap[gb156]? = some (.cells #[.int .i64 ((rd_T37 l0_2 x3_2).f0), .int .i64 ((rd_T37 l0_2 x3_2).f1), .int .i64 ((rd_T37 l0_2 x3_2).f2)] 37 (0, 0))) := ⟨bfp3 BK156⟩
     have n2_ : Aside0 (Below w.heap.size w (((w45.setCell ⟨gb156, 0, none⟩ (.int .i64 ((rd_T37 l0_2 x3_2).f0))).setCell ⟨gb156, 1, none⟩ (.int .i64 ((rd_T37 l0_2 x3_2).f1))).setCell ⟨gb156, 2, none⟩ (.int .i64 ((rd_T37 l0_2 x3_2).f2)))) := ⟨tb HB⟩
     (try clear BK152)
     (try clear BK156)
     (try clear HB)
     generalize (((w45.setCell ⟨gb156, 0, none⟩ (.int .i64 ((rd_T37 l0_2 x3_2).f0))).setCell ⟨gb156, 1, none⟩ (.int .i64 ((rd_T37 l0_2 x3_2).f1))).setCell ⟨gb156, 2, none⟩ (.int .i64 ((rd_T37 l0_2 x3_2).f2))) = w48 at n0_ n1_ n2_ ⊢
     have BK152 := n0_
     have BK156 := n1_
     have HB := n2_
     clear n0_ n1_ n2_
     replace BK152 := bd BK152
     replace BK156 := bd BK156
     replace HB := Aside0.mk (below_drew1 HB.out)
     have p160 : 0 ≤ ((ji34) : Int) := od
     have q160 : (ji34) < (l0_2.length : Int) := od
     obtain ⟨ad160, e160, hx160⟩ := att37 HR0_2.out (ji34) p160 q160
     have hw160 := hx160
     obtain rfl : ad155 = ad160 := (by injection e160)
     replace hx160 := ox3 HB hx160
     replace p160 := eq_true p160
     replace q160 := eq_true q160
     refine start_ (n := 32) (S := fun w' => cS3 gb156 (.int .i64 ((rd_T37 l0_2 x3_2).f0)) (.int .i64 ((rd_T37 l0_2 x3_2).f1)) (.int .i64 ((rd_T37 l0_2 x3_2).f2)) w' ∧ cS5 gb152 (.int .i64 a0_0) (.int .i64 a0_1) (.slice (some ad155) l0_2.length c0_2) (.int .i64 a0_3) (.slice A0_4 l0_4.length c0_4) w' ∧ eT37 (ad155.add (((ji34)).toNat * 3)) (rd_T37 l0_2 (ji34)) w') (ds := []) #[false, false, false, false, false, false, false, false, false, false, false, false, false, false, false, false, false, false, false, false, false, false, false, false, false, false, false, false, false, false, false, false] (by kernel_rfl) rfl rfl ⟨ds3_ BK156, ds5_ BK152, (ox3 HB hw160 :)⟩ (fun hHeld => ?_); refine with_tabW spec_DescOk.tab9 spec_DescOk.bits9 (fun HT_ HW_ => ?_)
     generalize w48.drew = w49 at BK152 BK156 HB hx160 hHeld ⊢
     refine pu 0 58 ?_; refine ta 1 59 ?_
     refine on1 2 (some 60) (fun K hK => ?_)
     refine gS Tryz.func70 #[.int .i64 ((rd_T37 l0_2 x3_2).f0), .int .i64 0, .int .i64 19] ?_
     with_reducible refine (spec_l1In.calls ((rd_T37 l0_2 x3_2).f0) 0 19 true _ A27.out).mono ?_
     rintro e w' ⟨rfl, ⟨nd, rfl⟩⟩
     refine ⟨_, rfl, ?_⟩
     refine hK.out _ _ ⟨ds3_ BK156, ds5_ BK152, (ox3 HB hw160 :)⟩ (fun hHeld => ?_)
     clear hK K
     refine nm 60 ?_
     refine pu 3 61 ?_; refine pu 4 62 ?_; refine pu 5 63 ?_; refine ta 6 64 ?_
     refine on1 7 (some 65) (fun K hK => ?_)
     refine gS Tryz.func70 #[.int .i64 ((rd_T37 l0_2 x3_2).f1), .int .i64 0, .int .i64 1000] ?_
     with_reducible refine (spec_l1In.calls ((rd_T37 l0_2 x3_2).f1) 0 1000 true _ A29.out).mono ?_
     rintro e w' ⟨rfl, ⟨nd, rfl⟩⟩
     refine ⟨_, rfl, ?_⟩
     refine hK.out _ _ ⟨ds3_ BK156, ds5_ BK152, (ox3 HB hw160 :)⟩ (fun hHeld => ?_)
     clear hK K
     refine nm 65 ?_
     refine pu 8 66 ?_; refine pu 9 67 ?_; refine pu 10 68 ?_; refine pu 11 69 ?_; refine ta 12 70 ?_
     refine on1 13 (some 71) (fun K hK => ?_)
     refine gS Tryz.func70 #[.int .i64 ((rd_T37 l0_2 x3_2).f2), .int .i64 0, .int .i64 1000] ?_
     with_reducible refine (spec_l1In.calls ((rd_T37 l0_2 x3_2).f2) 0 1000 true _ A31.out).mono ?_
     rintro e w' ⟨rfl, ⟨nd, rfl⟩⟩
     refine ⟨_, rfl, ?_⟩
     refine hK.out _ _ ⟨ds3_ BK156, ds5_ BK152, (ox3 HB hw160 :)⟩ (fun hHeld => ?_)
     clear hK K
     refine nm 71 ?_
     refine pu 14 72 ?_; refine pu 15 73 ?_; refine pu 16 74 ?_; refine pu 17 75 ?_; refine pu 18 76 ?_; refine pu 19 77 ?_; refine pu 20 78 ?_; refine pu 22 80 ?_; refine pu 23 81 ?_; refine pu 27 85 ?_; refine ta 21 79 ?_; refine pu 24 82 ?_
     refine pu 25 83 ?_; refine ta 26 84 ?_; refine ta 28 86 ?_; refine pu 29 87 ?_; refine pu 30 88 ?_; refine pu 31 89 ?_
     refine done_ (done_of HT_.out (by kernel_rfl)) ?_
     try go_wp2
     go_roundg k2
     case measure => have := HJ13.out; have := HK2.out; omega
     case rel => exact ⟨(wrap64 (x3_2 + 1)), rsd, H', ⟨by have := HJ13.out; have := HK2.out; omega⟩, ⟨by (with_reducible repeat (first | refine blk_drewN ?_ _ | refine blk_drew ?_ | refine blk_alloc ?_ _)); exact BK152.out⟩, ⟨tb HB⟩⟩
def spec_WordOk.f (a0_0 : Int) (a0_1 : Int) (a0_2 : Int) (a1 : Int) : Option (Bool) := if a0_1 = 0 then (if a0_2 = 0 then ((spec_l1In.f a0_0 0 1000).bind fun t162 => (some t162)) else (some false)) else (if a0_0 = 0 then ((spec_l1In.f a0_1 1 a1).bind fun t163 => (if t163 = true then ((spec_l1In.f a0_2 1 1000000).bind fun t164 => (some t164)) else (some false))) else (some false))
set_option maxHeartbeats 8000000 in
set_option maxRecDepth 100000 in
theorem spec_WordOk.calls (a0_0 : Int) (a0_1 : Int) (a0_2 : Int) (a1 : Int) (r : Bool) (w : World) (h : spec_WordOk.f a0_0 a0_1 a0_2 a1 = some r) :
  Calls Tryz.prog 126 #[.agg #[.int .i64 a0_0, .int .i64 a0_1, .int .i64 a0_2], .int .i64 a1] w fun e w' => e = .returned (.bool r) ∧ Below w.heap.size w w' := by
 have hu39 := Tryz.underlying39
 have HB := Aside0.mk (Below.refl w.heap.size w)
 have H := h
 clear h
 unfold spec_WordOk.f at H
 by_cases c3 : a0_1 = 0
 case pos =>
  rw [if_pos c3] at H
  have c3b0 : (a0_1 == 0) = true := beq_iff_eq.mpr c3
  have c3b1 : (a0_1 != 0) = false := bne_eq_false_iff_eq.mpr c3
  clear c3
  by_cases c4 : a0_2 = 0
  case neg =>
   rw [if_neg c4] at H
   have c4b0 : (a0_2 == 0) = false := beq_eq_false_iff_ne.mpr c4
   have c4b1 : (a0_2 != 0) = true := bne_iff_ne.mpr c4
   obtain rfl := oin H
   go_enter Tryz.func126, Tryz.ntmps126
   go_wp2_with (first | ((with_reducible refine gq 2 rfl ?_); refine bx0 HB (N := 2) (t := 39) ?_; clear HB; intro gb161 w8 BK161 GE161 HB; have hz9 := cs3_ BK161))
   go_ret
   exact ⟨er, tb HB⟩
  rw [if_pos c4] at H
  have c4b0 : (a0_2 == 0) = true := beq_iff_eq.mpr c4
  have c4b1 : (a0_2 != 0) = false := bne_eq_false_iff_eq.mpr c4
  clear c4
  obtain ⟨t162, A5, H⟩ := bn H
  try dsimp only at H
  obtain rfl := oin H
  go_enter Tryz.func126, Tryz.ntmps126
  go_wp2_with (first | ((with_reducible refine gq 2 rfl ?_); refine bx0 HB (N := 2) (t := 39) ?_; clear HB; intro gb161 w6 BK161 GE161 HB; have hz7 := cs3_ BK161) | (go_at_call 70; (with_reducible refine (spec_l1In.calls a0_0 0 1000 t162 _ A5.out).mono ?_); rintro e w' ⟨rfl, ⟨nd, rfl⟩⟩))
  go_ret
  exact ⟨er, tb HB⟩
 rw [if_neg c3] at H
 have c3b0 : (a0_1 == 0) = false := beq_eq_false_iff_ne.mpr c3
 have c3b1 : (a0_1 != 0) = true := bne_iff_ne.mpr c3
 by_cases c10 : a0_0 = 0
 case neg =>
  rw [if_neg c10] at H
  have c10b0 : (a0_0 == 0) = false := beq_eq_false_iff_ne.mpr c10
  have c10b1 : (a0_0 != 0) = true := bne_iff_ne.mpr c10
  obtain rfl := oin H
  go_enter Tryz.func126, Tryz.ntmps126
  go_wp2_with (first | ((with_reducible refine gq 2 rfl ?_); refine bx0 HB (N := 2) (t := 39) ?_; clear HB; intro gb161 w18 BK161 GE161 HB; have hz19 := cs3_ BK161))
  go_ret
  exact ⟨er, tb HB⟩
 
 
 rw [if_pos c10] at H
 have c10b0 : (a0_0 == 0) = true := beq_iff_eq.mpr c10
 have c10b1 : (a0_0 != 0) = false := bne_eq_false_iff_eq.mpr c10
 clear c10
 obtain ⟨t163, A11, H⟩ := bn H
 try dsimp only at H
 cases t163
 case false =>
  replace H := ipf H
  obtain rfl := oin H
  go_enter Tryz.func126, Tryz.ntmps126
  go_wp2_with (first | ((with_reducible refine gq 2 rfl ?_); refine bx0 HB (N := 2) (t := 39) ?_; clear HB; intro gb161 w16 BK161 GE161 HB; have hz17 := cs3_ BK161) | (go_at_call 70; (with_reducible refine (spec_l1In.calls a0_1 1 a1 false _ A11.out).mono ?_); rintro e w' ⟨rfl, ⟨nd, rfl⟩⟩))
  go_ret
  exact ⟨er, tb HB⟩
 replace H := ipt H
 obtain ⟨t164, A13, H⟩ := bn H
 try dsimp only at H
 obtain rfl := oin H
 go_enter Tryz.func126, Tryz.ntmps126
 go_wp2_with (first | ((with_reducible refine gq 2 rfl ?_); refine bx0 HB (N := 2) (t := 39) ?_; clear HB; intro gb161 w14 BK161 GE161 HB; have hz15 := cs3_ BK161) | (go_at_call 70; (with_reducible refine (spec_l1In.calls a0_1 1 a1 true _ A11.out).mono ?_); rintro e w' ⟨rfl, ⟨nd, rfl⟩⟩) | (go_at_call 70; (with_reducible refine (spec_l1In.calls a0_2 1 1000000 t164 _ A13.out).mono ?_); rintro e w' ⟨rfl, ⟨nd, rfl⟩⟩))
 go_ret
 exact ⟨er, tb HB⟩
def spec_Entries.l0 : Nat → Int → Int → Int → Int → List (S37) → Int → List Int → Option (Int × Int × Int × Bool)
 | 0, _, _, _, _, _, _, _ => none
 | k + 1, x1, x6, x166000, x166001, x166002, x166003, x166004 => if x6 < (x166002.length : Int) then (if 0 ≤ x6 then (if ((rd_T37 x166002 x6).f0) = x1 then (some ((rd_T37 x166002 x6).f0, (rd_T37 x166002 x6).f1, (rd_T37 x166002 x6).f2, true)) else (spec_Entries.l0 k x1 (wrap64 (x6 + 1)) x166000 x166001 x166002 x166003 x166004)) else (none)) else (some (0, 0, 0, false))
def spec_Entries.f (k : Nat) (a0_0 : Int) (a0_1 : Int) (l0_2 : List (S37)) (a0_3 : Int) (l0_4 : List Int) (a1 : Int) : Option (Int × Int × Int × Bool) := spec_Entries.l0 k a1 0 a0_0 a0_1 l0_2 a0_3 l0_4
set_option maxHeartbeats 8000000 in
set_option maxRecDepth 100000 in
theorem spec_Entries.calls (k : Nat) (a0_0 : Int) (a0_1 : Int) (A0_2 : Option Addr) (c0_2 : Nat) (l0_2 : List (S37)) (a0_3 : Int) (A0_4 : Option Addr) (c0_4 : Nat) (l0_4 : List Int) (a1 : Int) (r1 : Int) (r2 : Int) (r3 : Int) (r4 : Bool) (w : World) (hr0_2 : Kd.C k37 w A0_2 l0_2.length l0_2) (hc0_2 : l0_2.length ≤ c0_2) (hr0_4 : Kd.C (Kd.int .i64) w A0_4 l0_4.length l0_4) (hc0_4 : l0_4.length ≤ c0_4) (h : spec_Entries.f k a0_0 a0_1 l0_2 a0_3 l0_4 a1 = some (r1, r2, r3, r4)) :
  Calls Tryz.prog 127 #[.agg #[.int .i64 a0_0, .int .i64 a0_1, .slice A0_2 l0_2.length c0_2, .int .i64 a0_3, .slice A0_4 l0_4.length c0_4], .int .i64 a1] w fun e w' => e = .returned (.tuple #[.agg #[.int .i64 r1, .int .i64 r2, .int .i64 r3], .bool r4]) ∧ Below w.heap.size w w' := by
 have hu52 := Tryz.underlying52
 have hu37 := Tryz.underlying37
 have HR0_2 := Aside0.mk hr0_2
 have HC0_2 := Aside0.mk hc0_2
 clear hr0_2 hc0_2
 have HR0_4 := Aside0.mk hr0_4
 have HC0_4 := Aside0.mk hc0_4
 clear hr0_4 hc0_4
 have HB := Aside0.mk (Below.refl w.heap.size w)
 have H := h
 clear h
 unfold spec_Entries.f at H
 have H' := Aside0.mk H
 clear H
 go_enter Tryz.func127, Tryz.ntmps127
 go_wp2_with (first | ((with_reducible refine gq 2 rfl ?_); refine bx0 HB (N := 2) (t := 52) ?_; clear HB; intro gb165 w3 BK165 GE165 HB) | ((with_reducible refine gq 4 rfl ?_); refine bx1 HB BK165 (N := 4) (cs := #[.int .i64 0, .int .i64 0, .int .i64 0]) (t := 37) ?_; clear HB BK165; intro gb166 w4 BK166 GE166 HB NB165_166 NB166_165 BK165))
 go_loopg [6] k (fun kq v6 w' => ∃ (x6_1 : Int) (x167000_1 : Int) (x167001_1 : Int) (x167002_1 : Int), v6 = .int .i64 x6_1 ∧ Aside0 (spec_Entries.l0 kq a1 x6_1 a0_0 a0_1 l0_2 a0_3 l0_4 = some (r1, r2, r3, r4)) ∧ Aside0 (kq ≤ k) ∧ Aside0 (w'.heap[gb165]? = some (.cells #[.int .i64 a0_0, .int .i64 a0_1, (.slice A0_2 l0_2.length c0_2), .int .i64 a0_3, (.slice A0_4 l0_4.length c0_4)] 52 (0, 0))) ∧ Aside0 (w'.heap[gb166]? = some (.cells #[.int .i64 x167000_1, .int .i64 x167001_1, .int .i64 x167002_1] 37 (0, 0))) ∧ Aside0 (Below w.heap.size w w'))
 case atStart => exact ⟨(0), (0), (0), (0), rsd, H', ⟨Nat.le_refl _⟩, ⟨by (with_reducible repeat (first | refine blk_drewN ?_ _ | refine blk_drew ?_ | refine blk_alloc ?_ _)); exact BK165.out⟩, ⟨by (with_reducible repeat (first | refine blk_drewN ?_ _ | refine blk_drew ?_ | refine blk_alloc ?_ _)); exact BK166.out⟩, ⟨tb HB⟩⟩
 case round =>
  clear H'
  try clear c1
  try clear p2
  obtain ⟨x6_1, x167000_1, x167001_1, x167002_1, rfl, HA, HK1, BK165, BK166, HB⟩ := hrel
  cases gk with
  | zero => exact absurd HA.out (by simp [spec_Entries.l0])
  | succ k1 =>
   have H := HA.out
   clear HA
   simp only [spec_Entries.l0] at H
   revert H; refine icd (fun c5b0 H => ?_) fun c5b0 H => ?neg
   case neg =>
    simp only [Option.some.injEq, Prod.mk.injEq] at H
    obtain ⟨rfl, rfl, rfl, rfl⟩ := H
    have hnb13 := NB165_166.out
    have hnc13 := NB166_165.out
    have hz14 := cs5_ BK165
    have hz15 := cs3_ BK166
    go_wp2
    refine bodyPost_ret (results_ct rfl _ _ gb166 37 #[.int .i64 0, .int .i64 0, .int .i64 0] (0, 0) _ rfl (bfp3 BK166) Tryz.underlying37 rfl (by kernel_rfl)) rfl ?_
    exact ⟨er, tb HB⟩
   obtain ⟨c6b0, H⟩ := itd H
   by_cases c7 : ((rd_T37 l0_2 x6_1).f0) = a1
   case neg =>
    rw [if_neg c7] at H
    have c7b0 : (((rd_T37 l0_2 x6_1).f0) == a1) = false := beq_eq_false_iff_ne.mpr c7
    have c7b1 : (((rd_T37 l0_2 x6_1).f0) != a1) = true := bne_iff_ne.mpr c7
    have H' := Aside0.mk H
    clear H
    have hnb11 := NB165_166.out
    have hnc11 := NB166_165.out
    have hz12 := cs5_ BK165
    have p167 : 0 ≤ (x6_1 : Int) := od
    have q167 : x6_1 < (l0_2.length : Int) := od
    obtain ⟨ad167, e167, hx167⟩ := att37 HR0_2.out x6_1 p167 q167
    cases e167
    replace hx167 := ox3 HB hx167
    replace p167 := eq_true p167
    replace q167 := eq_true q167
    go_wp2
    go_roundg k1
    case measure => have := HK1.out; omega
    case rel => exact ⟨(wrap64 (x6_1 + 1)), (x167000_1), (x167001_1), (x167002_1), rsd, H', ⟨by have := HK1.out; omega⟩, ⟨by (with_reducible repeat (first | refine blk_drewN ?_ _ | refine blk_drew ?_ | refine blk_alloc ?_ _)); exact BK165.out⟩, ⟨by (with_reducible repeat (first | refine blk_drewN ?_ _ | refine blk_drew ?_ | refine blk_alloc ?_ _)); exact BK166.out⟩, ⟨tb HB⟩⟩
   rw [if_pos c7] at H
   have c7b0 : (((rd_T37 l0_2 x6_1).f0) == a1) = true := beq_iff_eq.mpr c7
   have c7b1 : (((rd_T37 l0_2 x6_1).f0) != a1) = false := bne_eq_false_iff_eq.mpr c7
   clear c7
   simp only [Option.some.injEq, Prod.mk.injEq] at H
   obtain ⟨rfl, rfl, rfl, rfl⟩ := H
   have hnb8 := NB165_166.out
   have hnc8 := NB166_165.out
   have hz9 := cs5_ BK165
   have p167 : 0 ≤ (x6_1 : Int) := od
   have q167 : x6_1 < (l0_2.length : Int) := od
   obtain ⟨ad167, e167, hx167_0, hx167_1, hx167_2⟩ := at_T37 HR0_2.out x6_1 p167 q167
   cases e167
   replace hx167_0 := ox HB hx167_0
   replace hx167_1 := ox HB hx167_1
   replace hx167_2 := ox HB hx167_2
   replace p167 := eq_true p167
   replace q167 := eq_true q167
   have p168 : 0 ≤ (x6_1 : Int) := od
   have q168 : x6_1 < (l0_2.length : Int) := od
   obtain ⟨ad168, e168, hx168_0, hx168_1, hx168_2⟩ := at_T37 HR0_2.out x6_1 p168 q168
   obtain rfl : ad167 = ad168 := (by injection e168)
   replace hx168_0 := ox HB hx168_0
   replace hx168_1 := ox HB hx168_1
   replace hx168_2 := ox HB hx168_2
   replace p168 := eq_true p168
   replace q168 := eq_true q168
   have hz10 := cs3_ BK166
   go_wp2
   refine bodyPost_ret (results_ct rfl _ _ gb166 37 #[.int .i64 ((rd_T37 l0_2 x6_1).f0), .int .i64 ((rd_T37 l0_2 x6_1).f1), .int .i64 ((rd_T37 l0_2 x6_1).f2)] (0, 0) _ rfl (bfp3 BK166) Tryz.underlying37 rfl (by kernel_rfl)) rfl ?_
   exact ⟨er, tb HB⟩
end Go.Proofs.YtopikhjcbcpiaaaGreat.Q
