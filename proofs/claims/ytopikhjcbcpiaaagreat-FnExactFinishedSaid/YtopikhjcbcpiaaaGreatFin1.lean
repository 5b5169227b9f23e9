/- Part 1 of the steps by which the law is shown: what each function of the program, of the reference and of the law computes. No condition. -/
import Derived.Test.YtopikhjcbcpiaaaGreatProg
import Derived.Below
import Derived.Deep.Draws
import Derived.Deep.AppendLies
import Derived.Maps.AppendAt
import Derived.OwnWalk
import Derived.Laws.BytesArg
import Derived.Laws.MakeOwn
import Derived.Laws.OwnMore
import Derived.Deep.OwnRows
import Derived.Tactics
import Derived.Lib.ConvBytes
import Derived.Laws.Slices
import Derived.WalkKit
import Derived.KernelRfl
import Derived.RowKit3
import Derived.Deep.LoopGhost
import Derived.Deep.QuietTactic
import Derived.BigQuiet
import Derived.WideLaws
import Derived.Deep.DeepCutAuto
import Derived.Deep.CutBlock
import Derived.Deep.RegionHeld3
import Derived.Laws.Rows
import Derived.Lib.AppendStr
import Derived.ArgAppend
import Derived.Laws.IdiomCopy
import Derived.OrdersHeld
import Derived.Laws.BitsLemmas
import Derived.RowKit
import Derived.Test.YtopikhjcbcpiaaaGreatFin0
section
namespace Go.Proofs.YtopikhjcbcpiaaaGreat.Q
open Go.RowKit Go.Proofs.YtopikhjcbcpiaaaGreatW.PrintWords Go.Proofs.YtopikhjcbcpiaaaGreatW.PrintLast Go.Proofs.YtopikhjcbcpiaaaGreatW.PrintMore
attribute [local go_sem] max2_int min2_int max_two min_two max_three min_three max_four min_four   -- for this text's walks alone
set_option linter.unusedVariables false
set_option linter.unusedSimpArgs false
def errW : Option Int → Value
  | none => .nilIface
  | some c => .iface 0 (.int .i64 c)
theorem errW_none : errW none = .nilIface := rfl
theorem errW_some (c : Int) : errW (some c) = .iface 0 (.int .i64 c) := rfl
theorem info3 : (Tryz.prog.info? 3).map (fun i => (i.zero, i.size, i.bytes)) = some (some (.int .i64 0), 1, 8) := by kernel_rfl
theorem info37 : (Tryz.prog.info? 37).map (fun i => (i.zero, i.size, i.bytes)) = some (some (.agg #[(.int .i64 0), (.int .i64 0), (.int .i64 0)]), 3, 24) := by kernel_rfl
theorem info39 : (Tryz.prog.info? 39).map (fun i => (i.zero, i.size, i.bytes)) = some (some (.agg #[(.int .i64 0), (.int .i64 0), (.int .i64 0)]), 3, 24) := by kernel_rfl
theorem info42 : (Tryz.prog.info? 42).map (fun i => (i.zero, i.size, i.bytes)) = some (some (.agg #[(.int .i64 0), (.int .i64 0), (.int .i64 0), (.int .i64 0)]), 4, 32) := by kernel_rfl
theorem info52 : (Tryz.prog.info? 52).map (fun i => (i.zero, i.size, i.bytes)) = some (some (.agg #[(.int .i64 0), (.int .i64 0), (.slice none 0 0), (.int .i64 0), (.slice none 0 0)]), 5, 72) := by kernel_rfl
theorem info82 : (Tryz.prog.info? 82).map (fun i => (i.zero, i.size, i.bytes)) = some (some (.agg #[(.slice none 0 0), (.int .i64 0), (.bool false), (.slice none 0 0), (.slice none 0 0)]), 5, 88) := by kernel_rfl
theorem info132 : (Tryz.prog.info? 132).map (fun i => (i.zero, i.size, i.bytes)) = some (some (.agg #[(.int .i64 0), (.int .i64 0), (.int .i64 0)]), 3, 24) := by kernel_rfl
theorem info134 : (Tryz.prog.info? 134).map (fun i => (i.zero, i.size, i.bytes)) = some (some (.agg #[(.int .i64 0), (.int .i64 0), (.int .i64 0), (.int .i64 0), (.int .i64 0), (.int .i64 0), (.int .i64 0), (.int .i64 0), (.slice none 0 0)]), 9, 88) := by kernel_rfl
theorem info145 : (Tryz.prog.info? 145).map (fun i => (i.zero, i.size, i.bytes)) = some (some (.agg #[(.int .i64 0), (.int .i64 0)]), 2, 16) := by kernel_rfl
structure S207 where
  f0 : Int
  f1 : Int
  f2 : Int
def z207 : S207 := ⟨(0 : Int), (0 : Int), (0 : Int)⟩
def k207 : Kd S207 := Kd.iso (Kd.pair (Kd.int .i64) (Kd.pair (Kd.int .i64) (Kd.int .i64))) (fun x : S207 => (x.f0, x.f1, x.f2))
theorem k207_open {w : World} {x : S207} {cs : List Value} (h : k207.K w x cs) : cs = [.int .i64 x.f0, .int .i64 x.f1, .int .i64 x.f2] := by
  obtain ⟨_, _, rfl, rfl, ⟨_, _, rfl, rfl, rfl⟩⟩ := h
  exact rfl
def rd_T207 (xs : List S207) (i : Int) : S207 := xs.getD i.toNat z207
theorem at_T207 {w : World} {A : Option Addr} {n : Nat} {xs : List S207} (h : Kd.C k207 w A n xs) (i : Int) (h0 : 0 ≤ i) (h1 : i < n) : ∃ ad , A = some ad ∧ w.cell? (ad.add (i.toNat * 3)) = some (.int .i64 (rd_T207 xs i).f0) ∧ w.cell? ⟨(ad.add (i.toNat * 3)).block, (ad.add (i.toNat * 3)).off + 1, none⟩ = some (.int .i64 (rd_T207 xs i).f1) ∧ w.cell? ⟨(ad.add (i.toNat * 3)).block, (ad.add (i.toNat * 3)).off + 2, none⟩ = some (.int .i64 (rd_T207 xs i).f2) := by
  obtain ⟨ad, c, e, _, hK, hc0⟩ := Kd.C_get h z207 i h0 h1
  have hc : ∀ j u, c[j]? = some u → w.cell? (ad.add (i.toNat * 3 + j)) = some u := hc0
  obtain rfl := k207_open hK
  exact ⟨ad, e, hc 0 _ rfl, by rw [← add_field _ _ 1 (by omega)]; exact hc 1 _ rfl, by rw [← add_field _ _ 2 (by omega)]; exact hc 2 _ rfl⟩
structure S236 where
  f0 : Int
  f1 : Int
  f2 : Int
def z236 : S236 := ⟨(0 : Int), (0 : Int), (0 : Int)⟩
def k236 : Kd S236 := Kd.iso (Kd.pair (Kd.int .i64) (Kd.pair (Kd.int .i64) (Kd.int .i64))) (fun x : S236 => (x.f0, x.f1, x.f2))
theorem k236_open {w : World} {x : S236} {cs : List Value} (h : k236.K w x cs) : cs = [.int .i64 x.f0, .int .i64 x.f1, .int .i64 x.f2] := by
  obtain ⟨_, _, rfl, rfl, ⟨_, _, rfl, rfl, rfl⟩⟩ := h
  exact rfl
def rd_T236 (xs : List S236) (i : Int) : S236 := xs.getD i.toNat z236
theorem at_T236 {w : World} {A : Option Addr} {n : Nat} {xs : List S236} (h : Kd.C k236 w A n xs) (i : Int) (h0 : 0 ≤ i) (h1 : i < n) : ∃ ad , A = some ad ∧ w.cell? (ad.add (i.toNat * 3)) = some (.int .i64 (rd_T236 xs i).f0) ∧ w.cell? ⟨(ad.add (i.toNat * 3)).block, (ad.add (i.toNat * 3)).off + 1, none⟩ = some (.int .i64 (rd_T236 xs i).f1) ∧ w.cell? ⟨(ad.add (i.toNat * 3)).block, (ad.add (i.toNat * 3)).off + 2, none⟩ = some (.int .i64 (rd_T236 xs i).f2) := by
  obtain ⟨ad, c, e, _, hK, hc0⟩ := Kd.C_get h z236 i h0 h1
  have hc : ∀ j u, c[j]? = some u → w.cell? (ad.add (i.toNat * 3 + j)) = some u := hc0
  obtain rfl := k236_open hK
  exact ⟨ad, e, hc 0 _ rfl, by rw [← add_field _ _ 1 (by omega)]; exact hc 1 _ rfl, by rw [← add_field _ _ 2 (by omega)]; exact hc 2 _ rfl⟩
structure S174 where
  f0 : Int
  f1 : (List Int)
def z174 : S174 := ⟨(0 : Int), ([] : List Int)⟩
def k174 : Kd S174 := Kd.iso (Kd.pair (Kd.int .i64) (Kd.slice 3 (Kd.int .i64))) (fun x : S174 => (x.f0, x.f1))
theorem k174_open {w : World} {x : S174} {cs : List Value} (h : k174.K w x cs) : ∃ A1 c1, cs = [.int .i64 x.f0, .slice A1 x.f1.length c1] ∧ x.f1.length ≤ c1 ∧ (Kd.int .i64).C w A1 x.f1.length x.f1 := by
  obtain ⟨_, _, rfl, rfl, ⟨A1, c1, rfl, l1, g1⟩⟩ := h
  exact ⟨A1, c1, rfl, l1, g1⟩
structure S201 where
  f0 : Int
  f1 : Int
  f2 : (List S236)
  f3 : S174
def z201 : S201 := ⟨(0 : Int), (0 : Int), ([] : List S236), z174⟩
def k201 : Kd S201 := Kd.iso (Kd.pair (Kd.int .i64) (Kd.pair (Kd.int .i64) (Kd.pair (Kd.slice 236 k236) k174))) (fun x : S201 => (x.f0, x.f1, x.f2, x.f3))
theorem k201_open {w : World} {x : S201} {cs : List Value} (h : k201.K w x cs) : ∃ A2 c2 A4 c4, cs = [.int .i64 x.f0, .int .i64 x.f1, .slice A2 x.f2.length c2, .int .i64 x.f3.f0, .slice A4 x.f3.f1.length c4] ∧ x.f2.length ≤ c2 ∧ k236.C w A2 x.f2.length x.f2 ∧ x.f3.f1.length ≤ c4 ∧ (Kd.int .i64).C w A4 x.f3.f1.length x.f3.f1 := by
  obtain ⟨_, _, rfl, rfl, ⟨_, _, rfl, rfl, ⟨_, _, rfl, ⟨A2, c2, rfl, l2, g2⟩, s3⟩⟩⟩ := h
  obtain ⟨A4, c4, rfl, l4, g4⟩ := k174_open s3
  exact ⟨A2, c2, A4, c4, rfl, l2, g2, l4, g4⟩
def rd_T201 (xs : List S201) (i : Int) : S201 := xs.getD i.toNat z201
theorem at_T201 {w : World} {A : Option Addr} {n : Nat} {xs : List S201} (h : Kd.C k201 w A n xs) (i : Int) (h0 : 0 ≤ i) (h1 : i < n) : ∃ ad A2 c2 A4 c4, A = some ad ∧ w.cell? (ad.add (i.toNat * 5)) = some (.int .i64 (rd_T201 xs i).f0) ∧ w.cell? ⟨(ad.add (i.toNat * 5)).block, (ad.add (i.toNat * 5)).off + 1, none⟩ = some (.int .i64 (rd_T201 xs i).f1) ∧ w.cell? ⟨(ad.add (i.toNat * 5)).block, (ad.add (i.toNat * 5)).off + 2, none⟩ = some (.slice A2 (rd_T201 xs i).f2.length c2) ∧ w.cell? ⟨(ad.add (i.toNat * 5)).block, (ad.add (i.toNat * 5)).off + 3, none⟩ = some (.int .i64 (rd_T201 xs i).f3.f0) ∧ w.cell? ⟨(ad.add (i.toNat * 5)).block, (ad.add (i.toNat * 5)).off + 4, none⟩ = some (.slice A4 (rd_T201 xs i).f3.f1.length c4) ∧ (rd_T201 xs i).f2.length ≤ c2 ∧ k236.C w A2 (rd_T201 xs i).f2.length (rd_T201 xs i).f2 ∧ (rd_T201 xs i).f3.f1.length ≤ c4 ∧ (Kd.int .i64).C w A4 (rd_T201 xs i).f3.f1.length (rd_T201 xs i).f3.f1 := by
  obtain ⟨ad, c, e, _, hK, hc0⟩ := Kd.C_get h z201 i h0 h1
  have hc : ∀ j u, c[j]? = some u → w.cell? (ad.add (i.toNat * 5 + j)) = some u := hc0
  obtain ⟨A2, c2, A4, c4, rfl, l2, g2, l4, g4⟩ := k201_open hK
  exact ⟨ad, A2, c2, A4, c4, e, hc 0 _ rfl, by rw [← add_field _ _ 1 (by omega)]; exact hc 1 _ rfl, by rw [← add_field _ _ 2 (by omega)]; exact hc 2 _ rfl, by rw [← add_field _ _ 3 (by omega)]; exact hc 3 _ rfl, by rw [← add_field _ _ 4 (by omega)]; exact hc 4 _ rfl, l2, g2, l4, g4⟩
structure S173 where
  f0 : Int
  f1 : Int
  f2 : Int
def z173 : S173 := ⟨(0 : Int), (0 : Int), (0 : Int)⟩
def k173 : Kd S173 := Kd.iso (Kd.pair (Kd.int .i64) (Kd.pair (Kd.int .i64) (Kd.int .i64))) (fun x : S173 => (x.f0, x.f1, x.f2))
theorem k173_open {w : World} {x : S173} {cs : List Value} (h : k173.K w x cs) : cs = [.int .i64 x.f0, .int .i64 x.f1, .int .i64 x.f2] := by
  obtain ⟨_, _, rfl, rfl, ⟨_, _, rfl, rfl, rfl⟩⟩ := h
  exact rfl
def rd_T173 (xs : List S173) (i : Int) : S173 := xs.getD i.toNat z173
theorem at_T173 {w : World} {A : Option Addr} {n : Nat} {xs : List S173} (h : Kd.C k173 w A n xs) (i : Int) (h0 : 0 ≤ i) (h1 : i < n) : ∃ ad , A = some ad ∧ w.cell? (ad.add (i.toNat * 3)) = some (.int .i64 (rd_T173 xs i).f0) ∧ w.cell? ⟨(ad.add (i.toNat * 3)).block, (ad.add (i.toNat * 3)).off + 1, none⟩ = some (.int .i64 (rd_T173 xs i).f1) ∧ w.cell? ⟨(ad.add (i.toNat * 3)).block, (ad.add (i.toNat * 3)).off + 2, none⟩ = some (.int .i64 (rd_T173 xs i).f2) := by
  obtain ⟨ad, c, e, _, hK, hc0⟩ := Kd.C_get h z173 i h0 h1
  have hc : ∀ j u, c[j]? = some u → w.cell? (ad.add (i.toNat * 3 + j)) = some u := hc0
  obtain rfl := k173_open hK
  exact ⟨ad, e, hc 0 _ rfl, by rw [← add_field _ _ 1 (by omega)]; exact hc 1 _ rfl, by rw [← add_field _ _ 2 (by omega)]; exact hc 2 _ rfl⟩
structure S224 where
  f0 : Int
  f1 : Int
def z224 : S224 := ⟨(0 : Int), (0 : Int)⟩
def k224 : Kd S224 := Kd.iso (Kd.pair (Kd.int .i64) (Kd.int .i64)) (fun x : S224 => (x.f0, x.f1))
theorem k224_open {w : World} {x : S224} {cs : List Value} (h : k224.K w x cs) : cs = [.int .i64 x.f0, .int .i64 x.f1] := by
  obtain ⟨_, _, rfl, rfl, rfl⟩ := h
  exact rfl
def rd_T224 (xs : List S224) (i : Int) : S224 := xs.getD i.toNat z224
theorem at_T224 {w : World} {A : Option Addr} {n : Nat} {xs : List S224} (h : Kd.C k224 w A n xs) (i : Int) (h0 : 0 ≤ i) (h1 : i < n) : ∃ ad , A = some ad ∧ w.cell? (ad.add (i.toNat * 2)) = some (.int .i64 (rd_T224 xs i).f0) ∧ w.cell? ⟨(ad.add (i.toNat * 2)).block, (ad.add (i.toNat * 2)).off + 1, none⟩ = some (.int .i64 (rd_T224 xs i).f1) := by
  obtain ⟨ad, c, e, _, hK, hc0⟩ := Kd.C_get h z224 i h0 h1
  have hc : ∀ j u, c[j]? = some u → w.cell? (ad.add (i.toNat * 2 + j)) = some u := hc0
  obtain rfl := k224_open hK
  exact ⟨ad, e, hc 0 _ rfl, by rw [← add_field _ _ 1 (by omega)]; exact hc 1 _ rfl⟩
structure S226 where
  f0 : Int
  f1 : Int
  f2 : Int
  f3 : Int
def z226 : S226 := ⟨(0 : Int), (0 : Int), (0 : Int), (0 : Int)⟩
def k226 : Kd S226 := Kd.iso (Kd.pair (Kd.int .i64) (Kd.pair (Kd.int .i64) (Kd.pair (Kd.int .i64) (Kd.int .i64)))) (fun x : S226 => (x.f0, x.f1, x.f2, x.f3))
theorem k226_open {w : World} {x : S226} {cs : List Value} (h : k226.K w x cs) : cs = [.int .i64 x.f0, .int .i64 x.f1, .int .i64 x.f2, .int .i64 x.f3] := by
  obtain ⟨_, _, rfl, rfl, ⟨_, _, rfl, rfl, ⟨_, _, rfl, rfl, rfl⟩⟩⟩ := h
  exact rfl
def rd_T226 (xs : List S226) (i : Int) : S226 := xs.getD i.toNat z226
theorem at_T226 {w : World} {A : Option Addr} {n : Nat} {xs : List S226} (h : Kd.C k226 w A n xs) (i : Int) (h0 : 0 ≤ i) (h1 : i < n) : ∃ ad , A = some ad ∧ w.cell? (ad.add (i.toNat * 4)) = some (.int .i64 (rd_T226 xs i).f0) ∧ w.cell? ⟨(ad.add (i.toNat * 4)).block, (ad.add (i.toNat * 4)).off + 1, none⟩ = some (.int .i64 (rd_T226 xs i).f1) ∧ w.cell? ⟨(ad.add (i.toNat * 4)).block, (ad.add (i.toNat * 4)).off + 2, none⟩ = some (.int .i64 (rd_T226 xs i).f2) ∧ w.cell? ⟨(ad.add (i.toNat * 4)).block, (ad.add (i.toNat * 4)).off + 3, none⟩ = some (.int .i64 (rd_T226 xs i).f3) := by
  obtain ⟨ad, c, e, _, hK, hc0⟩ := Kd.C_get h z226 i h0 h1
  have hc : ∀ j u, c[j]? = some u → w.cell? (ad.add (i.toNat * 4 + j)) = some u := hc0
  obtain rfl := k226_open hK
  exact ⟨ad, e, hc 0 _ rfl, by rw [← add_field _ _ 1 (by omega)]; exact hc 1 _ rfl, by rw [← add_field _ _ 2 (by omega)]; exact hc 2 _ rfl, by rw [← add_field _ _ 3 (by omega)]; exact hc 3 _ rfl⟩
structure S171 where
  f0 : (List S173)
  f1 : Int
  f2 : Bool
  f3 : (List S224)
  f4 : (List S226)
def z171 : S171 := ⟨([] : List S173), (0 : Int), false, ([] : List S224), ([] : List S226)⟩
def k171 : Kd S171 := Kd.iso (Kd.pair (Kd.slice 173 k173) (Kd.pair (Kd.int .i64) (Kd.pair Kd.bool (Kd.pair (Kd.slice 224 k224) (Kd.slice 226 k226))))) (fun x : S171 => (x.f0, x.f1, x.f2, x.f3, x.f4))
theorem k171_open {w : World} {x : S171} {cs : List Value} (h : k171.K w x cs) : ∃ A0 c0 A3 c3 A4 c4, cs = [.slice A0 x.f0.length c0, .int .i64 x.f1, .bool x.f2, .slice A3 x.f3.length c3, .slice A4 x.f4.length c4] ∧ x.f0.length ≤ c0 ∧ k173.C w A0 x.f0.length x.f0 ∧ x.f3.length ≤ c3 ∧ k224.C w A3 x.f3.length x.f3 ∧ x.f4.length ≤ c4 ∧ k226.C w A4 x.f4.length x.f4 := by
  obtain ⟨_, _, rfl, ⟨A0, c0, rfl, l0, g0⟩, ⟨_, _, rfl, rfl, ⟨_, _, rfl, rfl, ⟨_, _, rfl, ⟨A3, c3, rfl, l3, g3⟩, ⟨A4, c4, rfl, l4, g4⟩⟩⟩⟩⟩ := h
  exact ⟨A0, c0, A3, c3, A4, c4, rfl, l0, g0, l3, g3, l4, g4⟩
def rd_T171 (xs : List S171) (i : Int) : S171 := xs.getD i.toNat z171
theorem at_T171 {w : World} {A : Option Addr} {n : Nat} {xs : List S171} (h : Kd.C k171 w A n xs) (i : Int) (h0 : 0 ≤ i) (h1 : i < n) : ∃ ad A0 c0 A3 c3 A4 c4, A = some ad ∧ w.cell? (ad.add (i.toNat * 5)) = some (.slice A0 (rd_T171 xs i).f0.length c0) ∧ w.cell? ⟨(ad.add (i.toNat * 5)).block, (ad.add (i.toNat * 5)).off + 1, none⟩ = some (.int .i64 (rd_T171 xs i).f1) ∧ w.cell? ⟨(ad.add (i.toNat * 5)).block, (ad.add (i.toNat * 5)).off + 2, none⟩ = some (.bool (rd_T171 xs i).f2) ∧ w.cell? ⟨(ad.add (i.toNat * 5)).block, (ad.add (i.toNat * 5)).off + 3, none⟩ = some (.slice A3 (rd_T171 xs i).f3.length c3) ∧ w.cell? ⟨(ad.add (i.toNat * 5)).block, (ad.add (i.toNat * 5)).off + 4, none⟩ = some (.slice A4 (rd_T171 xs i).f4.length c4) ∧ (rd_T171 xs i).f0.length ≤ c0 ∧ k173.C w A0 (rd_T171 xs i).f0.length (rd_T171 xs i).f0 ∧ (rd_T171 xs i).f3.length ≤ c3 ∧ k224.C w A3 (rd_T171 xs i).f3.length (rd_T171 xs i).f3 ∧ (rd_T171 xs i).f4.length ≤ c4 ∧ k226.C w A4 (rd_T171 xs i).f4.length (rd_T171 xs i).f4 := by
  obtain ⟨ad, c, e, _, hK, hc0⟩ := Kd.C_get h z171 i h0 h1
  have hc : ∀ j u, c[j]? = some u → w.cell? (ad.add (i.toNat * 5 + j)) = some u := hc0
  obtain ⟨A0, c0, A3, c3, A4, c4, rfl, l0, g0, l3, g3, l4, g4⟩ := k171_open hK
  exact ⟨ad, A0, c0, A3, c3, A4, c4, e, hc 0 _ rfl, by rw [← add_field _ _ 1 (by omega)]; exact hc 1 _ rfl, by rw [← add_field _ _ 2 (by omega)]; exact hc 2 _ rfl, by rw [← add_field _ _ 3 (by omega)]; exact hc 3 _ rfl, by rw [← add_field _ _ 4 (by omega)]; exact hc 4 _ rfl, l0, g0, l3, g3, l4, g4⟩
structure S176 where
  f0 : Int
  f1 : S173
  f2 : Int
  f3 : Int
  f4 : Int
  f5 : S174
def z176 : S176 := ⟨(0 : Int), z173, (0 : Int), (0 : Int), (0 : Int), z174⟩
def k176 : Kd S176 := Kd.iso (Kd.pair (Kd.int .i64) (Kd.pair k173 (Kd.pair (Kd.int .i64) (Kd.pair (Kd.int .i64) (Kd.pair (Kd.int .i64) k174))))) (fun x : S176 => (x.f0, x.f1, x.f2, x.f3, x.f4, x.f5))
theorem k176_open {w : World} {x : S176} {cs : List Value} (h : k176.K w x cs) : ∃ A8 c8, cs = [.int .i64 x.f0, .int .i64 x.f1.f0, .int .i64 x.f1.f1, .int .i64 x.f1.f2, .int .i64 x.f2, .int .i64 x.f3, .int .i64 x.f4, .int .i64 x.f5.f0, .slice A8 x.f5.f1.length c8] ∧ x.f5.f1.length ≤ c8 ∧ (Kd.int .i64).C w A8 x.f5.f1.length x.f5.f1 := by
  obtain ⟨_, _, rfl, rfl, ⟨_, _, rfl, s1, ⟨_, _, rfl, rfl, ⟨_, _, rfl, rfl, ⟨_, _, rfl, rfl, s7⟩⟩⟩⟩⟩ := h
  obtain rfl := k173_open s1
  obtain ⟨A8, c8, rfl, l8, g8⟩ := k174_open s7
  exact ⟨A8, c8, rfl, l8, g8⟩
def rd_T176 (xs : List S176) (i : Int) : S176 := xs.getD i.toNat z176
theorem at_T176 {w : World} {A : Option Addr} {n : Nat} {xs : List S176} (h : Kd.C k176 w A n xs) (i : Int) (h0 : 0 ≤ i) (h1 : i < n) : ∃ ad A8 c8, A = some ad ∧ w.cell? (ad.add (i.toNat * 9)) = some (.int .i64 (rd_T176 xs i).f0) ∧ w.cell? ⟨(ad.add (i.toNat * 9)).block, (ad.add (i.toNat * 9)).off + 1, none⟩ = some (.int .i64 (rd_T176 xs i).f1.f0) ∧ w.cell? ⟨(ad.add (i.toNat * 9)).block, (ad.add (i.toNat * 9)).off + 2, none⟩ = some (.int .i64 (rd_T176 xs i).f1.f1) ∧ w.cell? ⟨(ad.add (i.toNat * 9)).block, (ad.add (i.toNat * 9)).off + 3, none⟩ = some (.int .i64 (rd_T176 xs i).f1.f2) ∧ w.cell? ⟨(ad.add (i.toNat * 9)).block, (ad.add (i.toNat * 9)).off + 4, none⟩ = some (.int .i64 (rd_T176 xs i).f2) ∧ w.cell? ⟨(ad.add (i.toNat * 9)).block, (ad.add (i.toNat * 9)).off + 5, none⟩ = some (.int .i64 (rd_T176 xs i).f3) ∧ w.cell? ⟨(ad.add (i.toNat * 9)).block, (ad.add (i.toNat * 9)).off + 6, none⟩ = some (.int .i64 (rd_T176 xs i).f4) ∧ w.cell? ⟨(ad.add (i.toNat * 9)).block, (ad.add (i.toNat * 9)).off + 7, none⟩ = some (.int .i64 (rd_T176 xs i).f5.f0) ∧ w.cell? ⟨(ad.add (i.toNat * 9)).block, (ad.add (i.toNat * 9)).off + 8, none⟩ = some (.slice A8 (rd_T176 xs i).f5.f1.length c8) ∧ (rd_T176 xs i).f5.f1.length ≤ c8 ∧ (Kd.int .i64).C w A8 (rd_T176 xs i).f5.f1.length (rd_T176 xs i).f5.f1 := by
  obtain ⟨ad, c, e, _, hK, hc0⟩ := Kd.C_get h z176 i h0 h1
  have hc : ∀ j u, c[j]? = some u → w.cell? (ad.add (i.toNat * 9 + j)) = some u := hc0
  obtain ⟨A8, c8, rfl, l8, g8⟩ := k176_open hK
  exact ⟨ad, A8, c8, e, hc 0 _ rfl, by rw [← add_field _ _ 1 (by omega)]; exact hc 1 _ rfl, by rw [← add_field _ _ 2 (by omega)]; exact hc 2 _ rfl, by rw [← add_field _ _ 3 (by omega)]; exact hc 3 _ rfl, by rw [← add_field _ _ 4 (by omega)]; exact hc 4 _ rfl, by rw [← add_field _ _ 5 (by omega)]; exact hc 5 _ rfl, by rw [← add_field _ _ 6 (by omega)]; exact hc 6 _ rfl, by rw [← add_field _ _ 7 (by omega)]; exact hc 7 _ rfl, by rw [← add_field _ _ 8 (by omega)]; exact hc 8 _ rfl, l8, g8⟩
structure S132 where
  f0 : Int
  f1 : Int
  f2 : Int
def z132 : S132 := ⟨(0 : Int), (0 : Int), (0 : Int)⟩
def k132 : Kd S132 := Kd.iso (Kd.pair (Kd.int .i64) (Kd.pair (Kd.int .i64) (Kd.int .i64))) (fun x : S132 => (x.f0, x.f1, x.f2))
theorem k132_open {w : World} {x : S132} {cs : List Value} (h : k132.K w x cs) : cs = [.int .i64 x.f0, .int .i64 x.f1, .int .i64 x.f2] := by
  obtain ⟨_, _, rfl, rfl, ⟨_, _, rfl, rfl, rfl⟩⟩ := h
  exact rfl
theorem k132_openM {w : World} {base : Nat} {ok : Nat → Prop} {x : S132} {cs : List Value} (h : k132.M w base ok x cs) : cs = [.int .i64 x.f0, .int .i64 x.f1, .int .i64 x.f2] := by
  obtain ⟨_, _, rfl, rfl, ⟨_, _, rfl, rfl, rfl⟩⟩ := h
  exact rfl
theorem k132_mkM (w : World) (base : Nat) (ok : Nat → Prop) (x : S132)  : k132.M w base ok x [.int .i64 x.f0, .int .i64 x.f1, .int .i64 x.f2] := ⟨[.int .i64 x.f0], [.int .i64 x.f1, .int .i64 x.f2], rfl, rfl, ⟨[.int .i64 x.f1], [.int .i64 x.f2], rfl, rfl, rfl⟩⟩
def rd_T132 (xs : List S132) (i : Int) : S132 := xs.getD i.toNat z132
theorem at_T132 {w : World} {A : Option Addr} {n : Nat} {xs : List S132} (h : Kd.C k132 w A n xs) (i : Int) (h0 : 0 ≤ i) (h1 : i < n) : ∃ ad , A = some ad ∧ w.cell? (ad.add (i.toNat * 3)) = some (.int .i64 (rd_T132 xs i).f0) ∧ w.cell? ⟨(ad.add (i.toNat * 3)).block, (ad.add (i.toNat * 3)).off + 1, none⟩ = some (.int .i64 (rd_T132 xs i).f1) ∧ w.cell? ⟨(ad.add (i.toNat * 3)).block, (ad.add (i.toNat * 3)).off + 2, none⟩ = some (.int .i64 (rd_T132 xs i).f2) := by
  obtain ⟨ad, c, e, _, hK, hc0⟩ := Kd.C_get h z132 i h0 h1
  have hc : ∀ j u, c[j]? = some u → w.cell? (ad.add (i.toNat * 3 + j)) = some u := hc0
  obtain rfl := k132_open hK
  exact ⟨ad, e, hc 0 _ rfl, by rw [← add_field _ _ 1 (by omega)]; exact hc 1 _ rfl, by rw [← add_field _ _ 2 (by omega)]; exact hc 2 _ rfl⟩
structure S145 where
  f0 : Int
  f1 : Int
def z145 : S145 := ⟨(0 : Int), (0 : Int)⟩
def k145 : Kd S145 := Kd.iso (Kd.pair (Kd.int .i64) (Kd.int .i64)) (fun x : S145 => (x.f0, x.f1))
theorem k145_open {w : World} {x : S145} {cs : List Value} (h : k145.K w x cs) : cs = [.int .i64 x.f0, .int .i64 x.f1] := by
  obtain ⟨_, _, rfl, rfl, rfl⟩ := h
  exact rfl
theorem k145_openM {w : World} {base : Nat} {ok : Nat → Prop} {x : S145} {cs : List Value} (h : k145.M w base ok x cs) : cs = [.int .i64 x.f0, .int .i64 x.f1] := by
  obtain ⟨_, _, rfl, rfl, rfl⟩ := h
  exact rfl
theorem k145_mkM (w : World) (base : Nat) (ok : Nat → Prop) (x : S145)  : k145.M w base ok x [.int .i64 x.f0, .int .i64 x.f1] := ⟨[.int .i64 x.f0], [.int .i64 x.f1], rfl, rfl, rfl⟩
def rd_T145 (xs : List S145) (i : Int) : S145 := xs.getD i.toNat z145
theorem at_T145 {w : World} {A : Option Addr} {n : Nat} {xs : List S145} (h : Kd.C k145 w A n xs) (i : Int) (h0 : 0 ≤ i) (h1 : i < n) : ∃ ad , A = some ad ∧ w.cell? (ad.add (i.toNat * 2)) = some (.int .i64 (rd_T145 xs i).f0) ∧ w.cell? ⟨(ad.add (i.toNat * 2)).block, (ad.add (i.toNat * 2)).off + 1, none⟩ = some (.int .i64 (rd_T145 xs i).f1) := by
  obtain ⟨ad, c, e, _, hK, hc0⟩ := Kd.C_get h z145 i h0 h1
  have hc : ∀ j u, c[j]? = some u → w.cell? (ad.add (i.toNat * 2 + j)) = some u := hc0
  obtain rfl := k145_open hK
  exact ⟨ad, e, hc 0 _ rfl, by rw [← add_field _ _ 1 (by omega)]; exact hc 1 _ rfl⟩
structure S42 where
  f0 : Int
  f1 : Int
  f2 : Int
  f3 : Int
def z42 : S42 := ⟨(0 : Int), (0 : Int), (0 : Int), (0 : Int)⟩
def k42 : Kd S42 := Kd.iso (Kd.pair (Kd.int .i64) (Kd.pair (Kd.int .i64) (Kd.pair (Kd.int .i64) (Kd.int .i64)))) (fun x : S42 => (x.f0, x.f1, x.f2, x.f3))
theorem k42_open {w : World} {x : S42} {cs : List Value} (h : k42.K w x cs) : cs = [.int .i64 x.f0, .int .i64 x.f1, .int .i64 x.f2, .int .i64 x.f3] := by
  obtain ⟨_, _, rfl, rfl, ⟨_, _, rfl, rfl, ⟨_, _, rfl, rfl, rfl⟩⟩⟩ := h
  exact rfl
theorem k42_openM {w : World} {base : Nat} {ok : Nat → Prop} {x : S42} {cs : List Value} (h : k42.M w base ok x cs) : cs = [.int .i64 x.f0, .int .i64 x.f1, .int .i64 x.f2, .int .i64 x.f3] := by
  obtain ⟨_, _, rfl, rfl, ⟨_, _, rfl, rfl, ⟨_, _, rfl, rfl, rfl⟩⟩⟩ := h
  exact rfl
theorem k42_mkM (w : World) (base : Nat) (ok : Nat → Prop) (x : S42)  : k42.M w base ok x [.int .i64 x.f0, .int .i64 x.f1, .int .i64 x.f2, .int .i64 x.f3] := ⟨[.int .i64 x.f0], [.int .i64 x.f1, .int .i64 x.f2, .int .i64 x.f3], rfl, rfl, ⟨[.int .i64 x.f1], [.int .i64 x.f2, .int .i64 x.f3], rfl, rfl, ⟨[.int .i64 x.f2], [.int .i64 x.f3], rfl, rfl, rfl⟩⟩⟩
def rd_T42 (xs : List S42) (i : Int) : S42 := xs.getD i.toNat z42
theorem at_T42 {w : World} {A : Option Addr} {n : Nat} {xs : List S42} (h : Kd.C k42 w A n xs) (i : Int) (h0 : 0 ≤ i) (h1 : i < n) : ∃ ad , A = some ad ∧ w.cell? (ad.add (i.toNat * 4)) = some (.int .i64 (rd_T42 xs i).f0) ∧ w.cell? ⟨(ad.add (i.toNat * 4)).block, (ad.add (i.toNat * 4)).off + 1, none⟩ = some (.int .i64 (rd_T42 xs i).f1) ∧ w.cell? ⟨(ad.add (i.toNat * 4)).block, (ad.add (i.toNat * 4)).off + 2, none⟩ = some (.int .i64 (rd_T42 xs i).f2) ∧ w.cell? ⟨(ad.add (i.toNat * 4)).block, (ad.add (i.toNat * 4)).off + 3, none⟩ = some (.int .i64 (rd_T42 xs i).f3) := by
  obtain ⟨ad, c, e, _, hK, hc0⟩ := Kd.C_get h z42 i h0 h1
  have hc : ∀ j u, c[j]? = some u → w.cell? (ad.add (i.toNat * 4 + j)) = some u := hc0
  obtain rfl := k42_open hK
  exact ⟨ad, e, hc 0 _ rfl, by rw [← add_field _ _ 1 (by omega)]; exact hc 1 _ rfl, by rw [← add_field _ _ 2 (by omega)]; exact hc 2 _ rfl, by rw [← add_field _ _ 3 (by omega)]; exact hc 3 _ rfl⟩
structure S37 where
  f0 : Int
  f1 : Int
  f2 : Int
def z37 : S37 := ⟨(0 : Int), (0 : Int), (0 : Int)⟩
def k37 : Kd S37 := Kd.iso (Kd.pair (Kd.int .i64) (Kd.pair (Kd.int .i64) (Kd.int .i64))) (fun x : S37 => (x.f0, x.f1, x.f2))
theorem k37_open {w : World} {x : S37} {cs : List Value} (h : k37.K w x cs) : cs = [.int .i64 x.f0, .int .i64 x.f1, .int .i64 x.f2] := by
  obtain ⟨_, _, rfl, rfl, ⟨_, _, rfl, rfl, rfl⟩⟩ := h
  exact rfl
theorem k37_openM {w : World} {base : Nat} {ok : Nat → Prop} {x : S37} {cs : List Value} (h : k37.M w base ok x cs) : cs = [.int .i64 x.f0, .int .i64 x.f1, .int .i64 x.f2] := by
  obtain ⟨_, _, rfl, rfl, ⟨_, _, rfl, rfl, rfl⟩⟩ := h
  exact rfl
theorem k37_mkM (w : World) (base : Nat) (ok : Nat → Prop) (x : S37)  : k37.M w base ok x [.int .i64 x.f0, .int .i64 x.f1, .int .i64 x.f2] := ⟨[.int .i64 x.f0], [.int .i64 x.f1, .int .i64 x.f2], rfl, rfl, ⟨[.int .i64 x.f1], [.int .i64 x.f2], rfl, rfl, rfl⟩⟩
def rd_T37 (xs : List S37) (i : Int) : S37 := xs.getD i.toNat z37
theorem at_T37 {w : World} {A : Option Addr} {n : Nat} {xs : List S37} (h : Kd.C k37 w A n xs) (i : Int) (h0 : 0 ≤ i) (h1 : i < n) : ∃ ad , A = some ad ∧ w.cell? (ad.add (i.toNat * 3)) = some (.int .i64 (rd_T37 xs i).f0) ∧ w.cell? ⟨(ad.add (i.toNat * 3)).block, (ad.add (i.toNat * 3)).off + 1, none⟩ = some (.int .i64 (rd_T37 xs i).f1) ∧ w.cell? ⟨(ad.add (i.toNat * 3)).block, (ad.add (i.toNat * 3)).off + 2, none⟩ = some (.int .i64 (rd_T37 xs i).f2) := by
  obtain ⟨ad, c, e, _, hK, hc0⟩ := Kd.C_get h z37 i h0 h1
  have hc : ∀ j u, c[j]? = some u → w.cell? (ad.add (i.toNat * 3 + j)) = some u := hc0
  obtain rfl := k37_open hK
  exact ⟨ad, e, hc 0 _ rfl, by rw [← add_field _ _ 1 (by omega)]; exact hc 1 _ rfl, by rw [← add_field _ _ 2 (by omega)]; exact hc 2 _ rfl⟩
structure S31 where
  f0 : Int
  f1 : (List Int)
def z31 : S31 := ⟨(0 : Int), ([] : List Int)⟩
def k31 : Kd S31 := Kd.iso (Kd.pair (Kd.int .i64) (Kd.slice 3 (Kd.int .i64))) (fun x : S31 => (x.f0, x.f1))
theorem k31_open {w : World} {x : S31} {cs : List Value} (h : k31.K w x cs) : ∃ A1 c1, cs = [.int .i64 x.f0, .slice A1 x.f1.length c1] ∧ x.f1.length ≤ c1 ∧ (Kd.int .i64).C w A1 x.f1.length x.f1 := by
  obtain ⟨_, _, rfl, rfl, ⟨A1, c1, rfl, l1, g1⟩⟩ := h
  exact ⟨A1, c1, rfl, l1, g1⟩
theorem k31_openM {w : World} {base : Nat} {ok : Nat → Prop} {x : S31} {cs : List Value} (h : k31.M w base ok x cs) : ∃ v1, cs = [.int .i64 x.f0, v1] ∧ (Kd.int .i64).R 3 w base ok v1 x.f1 := by
  obtain ⟨_, _, rfl, rfl, ⟨v1, rfl, g1⟩⟩ := h
  exact ⟨v1, rfl, g1⟩
theorem k31_mkM (w : World) (base : Nat) (ok : Nat → Prop) (x : S31) {v1 : Value} (g1 : (Kd.int .i64).R 3 w base ok v1 x.f1) : k31.M w base ok x [.int .i64 x.f0, v1] := ⟨[.int .i64 x.f0], [v1], rfl, rfl, ⟨v1, rfl, g1⟩⟩
structure S52 where
  f0 : Int
  f1 : Int
  f2 : (List S37)
  f3 : S31
def z52 : S52 := ⟨(0 : Int), (0 : Int), ([] : List S37), z31⟩
def k52 : Kd S52 := Kd.iso (Kd.pair (Kd.int .i64) (Kd.pair (Kd.int .i64) (Kd.pair (Kd.slice 37 k37) k31))) (fun x : S52 => (x.f0, x.f1, x.f2, x.f3))
theorem k52_open {w : World} {x : S52} {cs : List Value} (h : k52.K w x cs) : ∃ A2 c2 A4 c4, cs = [.int .i64 x.f0, .int .i64 x.f1, .slice A2 x.f2.length c2, .int .i64 x.f3.f0, .slice A4 x.f3.f1.length c4] ∧ x.f2.length ≤ c2 ∧ k37.C w A2 x.f2.length x.f2 ∧ x.f3.f1.length ≤ c4 ∧ (Kd.int .i64).C w A4 x.f3.f1.length x.f3.f1 := by
  obtain ⟨_, _, rfl, rfl, ⟨_, _, rfl, rfl, ⟨_, _, rfl, ⟨A2, c2, rfl, l2, g2⟩, s3⟩⟩⟩ := h
  obtain ⟨A4, c4, rfl, l4, g4⟩ := k31_open s3
  exact ⟨A2, c2, A4, c4, rfl, l2, g2, l4, g4⟩
theorem k52_openM {w : World} {base : Nat} {ok : Nat → Prop} {x : S52} {cs : List Value} (h : k52.M w base ok x cs) : ∃ v2 v4, cs = [.int .i64 x.f0, .int .i64 x.f1, v2, .int .i64 x.f3.f0, v4] ∧ k37.R 37 w base ok v2 x.f2 ∧ (Kd.int .i64).R 3 w base ok v4 x.f3.f1 := by
  obtain ⟨_, _, rfl, rfl, ⟨_, _, rfl, rfl, ⟨_, _, rfl, ⟨v2, rfl, g2⟩, s3⟩⟩⟩ := h
  obtain ⟨v4, rfl, g4⟩ := k31_openM s3
  exact ⟨v2, v4, rfl, g2, g4⟩
theorem k52_mkM (w : World) (base : Nat) (ok : Nat → Prop) (x : S52) {v2 : Value} (g2 : k37.R 37 w base ok v2 x.f2) {v4 : Value} (g4 : (Kd.int .i64).R 3 w base ok v4 x.f3.f1) : k52.M w base ok x [.int .i64 x.f0, .int .i64 x.f1, v2, .int .i64 x.f3.f0, v4] := ⟨[.int .i64 x.f0], [.int .i64 x.f1, v2, .int .i64 x.f3.f0, v4], rfl, rfl, ⟨[.int .i64 x.f1], [v2, .int .i64 x.f3.f0, v4], rfl, rfl, ⟨[v2], [.int .i64 x.f3.f0, v4], rfl, ⟨v2, rfl, g2⟩, (k31_mkM w base ok x.f3 g4)⟩⟩⟩
def rd_T52 (xs : List S52) (i : Int) : S52 := xs.getD i.toNat z52
theorem at_T52 {w : World} {A : Option Addr} {n : Nat} {xs : List S52} (h : Kd.C k52 w A n xs) (i : Int) (h0 : 0 ≤ i) (h1 : i < n) : ∃ ad A2 c2 A4 c4, A = some ad ∧ w.cell? (ad.add (i.toNat * 5)) = some (.int .i64 (rd_T52 xs i).f0) ∧ w.cell? ⟨(ad.add (i.toNat * 5)).block, (ad.add (i.toNat * 5)).off + 1, none⟩ = some (.int .i64 (rd_T52 xs i).f1) ∧ w.cell? ⟨(ad.add (i.toNat * 5)).block, (ad.add (i.toNat * 5)).off + 2, none⟩ = some (.slice A2 (rd_T52 xs i).f2.length c2) ∧ w.cell? ⟨(ad.add (i.toNat * 5)).block, (ad.add (i.toNat * 5)).off + 3, none⟩ = some (.int .i64 (rd_T52 xs i).f3.f0) ∧ w.cell? ⟨(ad.add (i.toNat * 5)).block, (ad.add (i.toNat * 5)).off + 4, none⟩ = some (.slice A4 (rd_T52 xs i).f3.f1.length c4) ∧ (rd_T52 xs i).f2.length ≤ c2 ∧ k37.C w A2 (rd_T52 xs i).f2.length (rd_T52 xs i).f2 ∧ (rd_T52 xs i).f3.f1.length ≤ c4 ∧ (Kd.int .i64).C w A4 (rd_T52 xs i).f3.f1.length (rd_T52 xs i).f3.f1 := by
  obtain ⟨ad, c, e, _, hK, hc0⟩ := Kd.C_get h z52 i h0 h1
  have hc : ∀ j u, c[j]? = some u → w.cell? (ad.add (i.toNat * 5 + j)) = some u := hc0
  obtain ⟨A2, c2, A4, c4, rfl, l2, g2, l4, g4⟩ := k52_open hK
  exact ⟨ad, A2, c2, A4, c4, e, hc 0 _ rfl, by rw [← add_field _ _ 1 (by omega)]; exact hc 1 _ rfl, by rw [← add_field _ _ 2 (by omega)]; exact hc 2 _ rfl, by rw [← add_field _ _ 3 (by omega)]; exact hc 3 _ rfl, by rw [← add_field _ _ 4 (by omega)]; exact hc 4 _ rfl, l2, g2, l4, g4⟩
structure S39 where
  f0 : Int
  f1 : Int
  f2 : Int
def z39 : S39 := ⟨(0 : Int), (0 : Int), (0 : Int)⟩
def k39 : Kd S39 := Kd.iso (Kd.pair (Kd.int .i64) (Kd.pair (Kd.int .i64) (Kd.int .i64))) (fun x : S39 => (x.f0, x.f1, x.f2))
theorem k39_open {w : World} {x : S39} {cs : List Value} (h : k39.K w x cs) : cs = [.int .i64 x.f0, .int .i64 x.f1, .int .i64 x.f2] := by
  obtain ⟨_, _, rfl, rfl, ⟨_, _, rfl, rfl, rfl⟩⟩ := h
  exact rfl
theorem k39_openM {w : World} {base : Nat} {ok : Nat → Prop} {x : S39} {cs : List Value} (h : k39.M w base ok x cs) : cs = [.int .i64 x.f0, .int .i64 x.f1, .int .i64 x.f2] := by
  obtain ⟨_, _, rfl, rfl, ⟨_, _, rfl, rfl, rfl⟩⟩ := h
  exact rfl
theorem k39_mkM (w : World) (base : Nat) (ok : Nat → Prop) (x : S39)  : k39.M w base ok x [.int .i64 x.f0, .int .i64 x.f1, .int .i64 x.f2] := ⟨[.int .i64 x.f0], [.int .i64 x.f1, .int .i64 x.f2], rfl, rfl, ⟨[.int .i64 x.f1], [.int .i64 x.f2], rfl, rfl, rfl⟩⟩
def rd_T39 (xs : List S39) (i : Int) : S39 := xs.getD i.toNat z39
theorem at_T39 {w : World} {A : Option Addr} {n : Nat} {xs : List S39} (h : Kd.C k39 w A n xs) (i : Int) (h0 : 0 ≤ i) (h1 : i < n) : ∃ ad , A = some ad ∧ w.cell? (ad.add (i.toNat * 3)) = some (.int .i64 (rd_T39 xs i).f0) ∧ w.cell? ⟨(ad.add (i.toNat * 3)).block, (ad.add (i.toNat * 3)).off + 1, none⟩ = some (.int .i64 (rd_T39 xs i).f1) ∧ w.cell? ⟨(ad.add (i.toNat * 3)).block, (ad.add (i.toNat * 3)).off + 2, none⟩ = some (.int .i64 (rd_T39 xs i).f2) := by
  obtain ⟨ad, c, e, _, hK, hc0⟩ := Kd.C_get h z39 i h0 h1
  have hc : ∀ j u, c[j]? = some u → w.cell? (ad.add (i.toNat * 3 + j)) = some u := hc0
  obtain rfl := k39_open hK
  exact ⟨ad, e, hc 0 _ rfl, by rw [← add_field _ _ 1 (by omega)]; exact hc 1 _ rfl, by rw [← add_field _ _ 2 (by omega)]; exact hc 2 _ rfl⟩
structure S82 where
  f0 : (List S132)
  f1 : Int
  f2 : Bool
  f3 : (List S145)
  f4 : (List S42)
def z82 : S82 := ⟨([] : List S132), (0 : Int), false, ([] : List S145), ([] : List S42)⟩
def k82 : Kd S82 := Kd.iso (Kd.pair (Kd.slice 132 k132) (Kd.pair (Kd.int .i64) (Kd.pair Kd.bool (Kd.pair (Kd.slice 145 k145) (Kd.slice 42 k42))))) (fun x : S82 => (x.f0, x.f1, x.f2, x.f3, x.f4))
theorem k82_open {w : World} {x : S82} {cs : List Value} (h : k82.K w x cs) : ∃ A0 c0 A3 c3 A4 c4, cs = [.slice A0 x.f0.length c0, .int .i64 x.f1, .bool x.f2, .slice A3 x.f3.length c3, .slice A4 x.f4.length c4] ∧ x.f0.length ≤ c0 ∧ k132.C w A0 x.f0.length x.f0 ∧ x.f3.length ≤ c3 ∧ k145.C w A3 x.f3.length x.f3 ∧ x.f4.length ≤ c4 ∧ k42.C w A4 x.f4.length x.f4 := by
  obtain ⟨_, _, rfl, ⟨A0, c0, rfl, l0, g0⟩, ⟨_, _, rfl, rfl, ⟨_, _, rfl, rfl, ⟨_, _, rfl, ⟨A3, c3, rfl, l3, g3⟩, ⟨A4, c4, rfl, l4, g4⟩⟩⟩⟩⟩ := h
  exact ⟨A0, c0, A3, c3, A4, c4, rfl, l0, g0, l3, g3, l4, g4⟩
theorem k82_openM {w : World} {base : Nat} {ok : Nat → Prop} {x : S82} {cs : List Value} (h : k82.M w base ok x cs) : ∃ v0 v3 v4, cs = [v0, .int .i64 x.f1, .bool x.f2, v3, v4] ∧ k132.R 132 w base ok v0 x.f0 ∧ k145.R 145 w base ok v3 x.f3 ∧ k42.R 42 w base ok v4 x.f4 := by
  obtain ⟨_, _, rfl, ⟨v0, rfl, g0⟩, ⟨_, _, rfl, rfl, ⟨_, _, rfl, rfl, ⟨_, _, rfl, ⟨v3, rfl, g3⟩, ⟨v4, rfl, g4⟩⟩⟩⟩⟩ := h
  exact ⟨v0, v3, v4, rfl, g0, g3, g4⟩
theorem k82_mkM (w : World) (base : Nat) (ok : Nat → Prop) (x : S82) {v0 : Value} (g0 : k132.R 132 w base ok v0 x.f0) {v3 : Value} (g3 : k145.R 145 w base ok v3 x.f3) {v4 : Value} (g4 : k42.R 42 w base ok v4 x.f4) : k82.M w base ok x [v0, .int .i64 x.f1, .bool x.f2, v3, v4] := ⟨[v0], [.int .i64 x.f1, .bool x.f2, v3, v4], rfl, ⟨v0, rfl, g0⟩, ⟨[.int .i64 x.f1], [.bool x.f2, v3, v4], rfl, rfl, ⟨[.bool x.f2], [v3, v4], rfl, rfl, ⟨[v3], [v4], rfl, ⟨v3, rfl, g3⟩, ⟨v4, rfl, g4⟩⟩⟩⟩⟩
def rd_T82 (xs : List S82) (i : Int) : S82 := xs.getD i.toNat z82
theorem at_T82 {w : World} {A : Option Addr} {n : Nat} {xs : List S82} (h : Kd.C k82 w A n xs) (i : Int) (h0 : 0 ≤ i) (h1 : i < n) : ∃ ad A0 c0 A3 c3 A4 c4, A = some ad ∧ w.cell? (ad.add (i.toNat * 5)) = some (.slice A0 (rd_T82 xs i).f0.length c0) ∧ w.cell? ⟨(ad.add (i.toNat * 5)).block, (ad.add (i.toNat * 5)).off + 1, none⟩ = some (.int .i64 (rd_T82 xs i).f1) ∧ w.cell? ⟨(ad.add (i.toNat * 5)).block, (ad.add (i.toNat * 5)).off + 2, none⟩ = some (.bool (rd_T82 xs i).f2) ∧ w.cell? ⟨(ad.add (i.toNat * 5)).block, (ad.add (i.toNat * 5)).off + 3, none⟩ = some (.slice A3 (rd_T82 xs i).f3.length c3) ∧ w.cell? ⟨(ad.add (i.toNat * 5)).block, (ad.add (i.toNat * 5)).off + 4, none⟩ = some (.slice A4 (rd_T82 xs i).f4.length c4) ∧ (rd_T82 xs i).f0.length ≤ c0 ∧ k132.C w A0 (rd_T82 xs i).f0.length (rd_T82 xs i).f0 ∧ (rd_T82 xs i).f3.length ≤ c3 ∧ k145.C w A3 (rd_T82 xs i).f3.length (rd_T82 xs i).f3 ∧ (rd_T82 xs i).f4.length ≤ c4 ∧ k42.C w A4 (rd_T82 xs i).f4.length (rd_T82 xs i).f4 := by
  obtain ⟨ad, c, e, _, hK, hc0⟩ := Kd.C_get h z82 i h0 h1
  have hc : ∀ j u, c[j]? = some u → w.cell? (ad.add (i.toNat * 5 + j)) = some u := hc0
  obtain ⟨A0, c0, A3, c3, A4, c4, rfl, l0, g0, l3, g3, l4, g4⟩ := k82_open hK
  exact ⟨ad, A0, c0, A3, c3, A4, c4, e, hc 0 _ rfl, by rw [← add_field _ _ 1 (by omega)]; exact hc 1 _ rfl, by rw [← add_field _ _ 2 (by omega)]; exact hc 2 _ rfl, by rw [← add_field _ _ 3 (by omega)]; exact hc 3 _ rfl, by rw [← add_field _ _ 4 (by omega)]; exact hc 4 _ rfl, l0, g0, l3, g3, l4, g4⟩
structure S134 where
  f0 : Int
  f1 : S132
  f2 : Int
  f3 : Int
  f4 : Int
  f5 : S31
def z134 : S134 := ⟨(0 : Int), z132, (0 : Int), (0 : Int), (0 : Int), z31⟩
def k134 : Kd S134 := Kd.iso (Kd.pair (Kd.int .i64) (Kd.pair k132 (Kd.pair (Kd.int .i64) (Kd.pair (Kd.int .i64) (Kd.pair (Kd.int .i64) k31))))) (fun x : S134 => (x.f0, x.f1, x.f2, x.f3, x.f4, x.f5))
theorem k134_open {w : World} {x : S134} {cs : List Value} (h : k134.K w x cs) : ∃ A8 c8, cs = [.int .i64 x.f0, .int .i64 x.f1.f0, .int .i64 x.f1.f1, .int .i64 x.f1.f2, .int .i64 x.f2, .int .i64 x.f3, .int .i64 x.f4, .int .i64 x.f5.f0, .slice A8 x.f5.f1.length c8] ∧ x.f5.f1.length ≤ c8 ∧ (Kd.int .i64).C w A8 x.f5.f1.length x.f5.f1 := by
  obtain ⟨_, _, rfl, rfl, ⟨_, _, rfl, s1, ⟨_, _, rfl, rfl, ⟨_, _, rfl, rfl, ⟨_, _, rfl, rfl, s7⟩⟩⟩⟩⟩ := h
  obtain rfl := k132_open s1
  obtain ⟨A8, c8, rfl, l8, g8⟩ := k31_open s7
  exact ⟨A8, c8, rfl, l8, g8⟩
theorem k134_openM {w : World} {base : Nat} {ok : Nat → Prop} {x : S134} {cs : List Value} (h : k134.M w base ok x cs) : ∃ v8, cs = [.int .i64 x.f0, .int .i64 x.f1.f0, .int .i64 x.f1.f1, .int .i64 x.f1.f2, .int .i64 x.f2, .int .i64 x.f3, .int .i64 x.f4, .int .i64 x.f5.f0, v8] ∧ (Kd.int .i64).R 3 w base ok v8 x.f5.f1 := by
  obtain ⟨_, _, rfl, rfl, ⟨_, _, rfl, s1, ⟨_, _, rfl, rfl, ⟨_, _, rfl, rfl, ⟨_, _, rfl, rfl, s7⟩⟩⟩⟩⟩ := h
  obtain rfl := k132_openM s1
  obtain ⟨v8, rfl, g8⟩ := k31_openM s7
  exact ⟨v8, rfl, g8⟩
theorem k134_mkM (w : World) (base : Nat) (ok : Nat → Prop) (x : S134) {v8 : Value} (g8 : (Kd.int .i64).R 3 w base ok v8 x.f5.f1) : k134.M w base ok x [.int .i64 x.f0, .int .i64 x.f1.f0, .int .i64 x.f1.f1, .int .i64 x.f1.f2, .int .i64 x.f2, .int .i64 x.f3, .int .i64 x.f4, .int .i64 x.f5.f0, v8] := ⟨[.int .i64 x.f0], [.int .i64 x.f1.f0, .int .i64 x.f1.f1, .int .i64 x.f1.f2, .int .i64 x.f2, .int .i64 x.f3, .int .i64 x.f4, .int .i64 x.f5.f0, v8], rfl, rfl, ⟨[.int .i64 x.f1.f0, .int .i64 x.f1.f1, .int .i64 x.f1.f2], [.int .i64 x.f2, .int .i64 x.f3, .int .i64 x.f4, .int .i64 x.f5.f0, v8], rfl, (k132_mkM w base ok x.f1 ), ⟨[.int .i64 x.f2], [.int .i64 x.f3, .int .i64 x.f4, .int .i64 x.f5.f0, v8], rfl, rfl, ⟨[.int .i64 x.f3], [.int .i64 x.f4, .int .i64 x.f5.f0, v8], rfl, rfl, ⟨[.int .i64 x.f4], [.int .i64 x.f5.f0, v8], rfl, rfl, (k31_mkM w base ok x.f5 g8)⟩⟩⟩⟩⟩
def rd_T134 (xs : List S134) (i : Int) : S134 := xs.getD i.toNat z134
theorem at_T134 {w : World} {A : Option Addr} {n : Nat} {xs : List S134} (h : Kd.C k134 w A n xs) (i : Int) (h0 : 0 ≤ i) (h1 : i < n) : ∃ ad A8 c8, A = some ad ∧ w.cell? (ad.add (i.toNat * 9)) = some (.int .i64 (rd_T134 xs i).f0) ∧ w.cell? ⟨(ad.add (i.toNat * 9)).block, (ad.add (i.toNat * 9)).off + 1, none⟩ = some (.int .i64 (rd_T134 xs i).f1.f0) ∧ w.cell? ⟨(ad.add (i.toNat * 9)).block, (ad.add (i.toNat * 9)).off + 2, none⟩ = some (.int .i64 (rd_T134 xs i).f1.f1) ∧ w.cell? ⟨(ad.add (i.toNat * 9)).block, (ad.add (i.toNat * 9)).off + 3, none⟩ = some (.int .i64 (rd_T134 xs i).f1.f2) ∧ w.cell? ⟨(ad.add (i.toNat * 9)).block, (ad.add (i.toNat * 9)).off + 4, none⟩ = some (.int .i64 (rd_T134 xs i).f2) ∧ w.cell? ⟨(ad.add (i.toNat * 9)).block, (ad.add (i.toNat * 9)).off + 5, none⟩ = some (.int .i64 (rd_T134 xs i).f3) ∧ w.cell? ⟨(ad.add (i.toNat * 9)).block, (ad.add (i.toNat * 9)).off + 6, none⟩ = some (.int .i64 (rd_T134 xs i).f4) ∧ w.cell? ⟨(ad.add (i.toNat * 9)).block, (ad.add (i.toNat * 9)).off + 7, none⟩ = some (.int .i64 (rd_T134 xs i).f5.f0) ∧ w.cell? ⟨(ad.add (i.toNat * 9)).block, (ad.add (i.toNat * 9)).off + 8, none⟩ = some (.slice A8 (rd_T134 xs i).f5.f1.length c8) ∧ (rd_T134 xs i).f5.f1.length ≤ c8 ∧ (Kd.int .i64).C w A8 (rd_T134 xs i).f5.f1.length (rd_T134 xs i).f5.f1 := by
  obtain ⟨ad, c, e, _, hK, hc0⟩ := Kd.C_get h z134 i h0 h1
  have hc : ∀ j u, c[j]? = some u → w.cell? (ad.add (i.toNat * 9 + j)) = some u := hc0
  obtain ⟨A8, c8, rfl, l8, g8⟩ := k134_open hK
  exact ⟨ad, A8, c8, e, hc 0 _ rfl, by rw [← add_field _ _ 1 (by omega)]; exact hc 1 _ rfl, by rw [← add_field _ _ 2 (by omega)]; exact hc 2 _ rfl, by rw [← add_field _ _ 3 (by omega)]; exact hc 3 _ rfl, by rw [← add_field _ _ 4 (by omega)]; exact hc 4 _ rfl, by rw [← add_field _ _ 5 (by omega)]; exact hc 5 _ rfl, by rw [← add_field _ _ 6 (by omega)]; exact hc 6 _ rfl, by rw [← add_field _ _ 7 (by omega)]; exact hc 7 _ rfl, by rw [← add_field _ _ 8 (by omega)]; exact hc 8 _ rfl, l8, g8⟩
end Go.Proofs.YtopikhjcbcpiaaaGreat.Q
end
section
namespace Go.Proofs.YtopikhjcbcpiaaaGreat.Q
open Go.RowKit Go.Proofs.YtopikhjcbcpiaaaGreatW.PrintWords Go.Proofs.YtopikhjcbcpiaaaGreatW.PrintLast Go.Proofs.YtopikhjcbcpiaaaGreatW.PrintMore
theorem sA {α : Type} (l : List α) (i : Nat) (a : α) : l.toArray.setIfInBounds i a = (l.set i a).toArray := List.setIfInBounds_toArray _ _ _
theorem sB {α : Type} (l : List α) (a b : α) : (a :: l).set 0 b = b :: l := List.set_cons_zero ..
theorem sC {α : Type} (l : List α) (a b : α) (n : Nat) : (a :: l).set (n + 1) b = a :: l.set n b := List.set_cons_succ ..
theorem er {p : Prop} (h : p := by first | rfl | (simp [errW_none, errW_some] <;> rfl) | (simp [*, errW_none, errW_some] <;> rfl)) : p := h
theorem od {p : Prop} [Decidable p] (h : decide p = true := by first | (with_reducible assumption) | assumption) : p := of_decide_eq_true h
section
variable {w w1 w2 w' : World} {g g' : Nat} {o : Obj}
theorem bk (b : Aside0 (w.heap[g]? = some o)) (f : w.heap[g]? = some o → w'.heap[g]? = some o := by intro h; (with_reducible repeat (first | refine blk_drewN ?_ _ | refine blk_drew ?_ | refine blk_alloc ?_ _)); exact h) : w'.heap[g]? = some o := f b.out
theorem nl_ (hg : g' = w'.heap.size) (b : Aside0 (w.heap[g]? = some o)) (f : w.heap[g]? = some o → w'.heap[g]? = some o := by intro h; (with_reducible repeat (first | refine blk_drewN ?_ _ | refine blk_drew ?_ | refine blk_alloc ?_ _)); exact h) : g ≠ g' := by rw [hg]; exact Nat.ne_of_lt (blk_lt (f b.out))
theorem ng_ (hg : g' = w'.heap.size) (b : Aside0 (w.heap[g]? = some o)) (f : w.heap[g]? = some o → w'.heap[g]? = some o := by intro h; (with_reducible repeat (first | refine blk_drewN ?_ _ | refine blk_drew ?_ | refine blk_alloc ?_ _)); exact h) : g' ≠ g := by rw [hg]; exact Nat.ne_of_gt (blk_lt (f b.out))
theorem bb (b : Aside0 (w.heap[g]? = some o)) (hb : Below w'.heap.size w' w2) (f : w.heap[g]? = some o → w'.heap[g]? = some o := by intro h; (with_reducible repeat (first | refine blk_drewN ?_ _ | refine blk_drew ?_ | refine blk_alloc ?_ _)); exact h) : Aside0 (w2.heap[g]? = some o) := ⟨blk_below (f b.out) hb⟩
theorem cs2_ {xa xb : Value} {t : TypeId} (h : Aside0 (w.heap[g]? = some (.cells #[xa, xb] t (0, 0)))) : w.cell? ⟨g, 0, none⟩ = some xa ∧ w.cell? ⟨g, 1, none⟩ = some xb ∧ w.frozen? ⟨g, 0, none⟩ = false ∧ w.frozen? ⟨g, 1, none⟩ = false := ⟨(blk_cell h.out 0).trans rfl, (blk_cell h.out 1).trans rfl, blk_frozen h.out 0, blk_frozen h.out 1⟩
theorem ds2_ {xa xb : Value} {t : TypeId} (h : Aside0 (w.heap[g]? = some (.cells #[xa, xb] t (0, 0)))) : w.cell? ⟨g, 0, none⟩ = some xa ∧ w.cell? ⟨g, 1, none⟩ = some xb := ⟨(blk_cell h.out 0).trans rfl, (blk_cell h.out 1).trans rfl⟩
theorem cs3_ {xa xb xc : Value} {t : TypeId} (h : Aside0 (w.heap[g]? = some (.cells #[xa, xb, xc] t (0, 0)))) : w.cell? ⟨g, 0, none⟩ = some xa ∧ w.cell? ⟨g, 1, none⟩ = some xb ∧ w.cell? ⟨g, 2, none⟩ = some xc ∧ w.frozen? ⟨g, 0, none⟩ = false ∧ w.frozen? ⟨g, 1, none⟩ = false ∧ w.frozen? ⟨g, 2, none⟩ = false := ⟨(blk_cell h.out 0).trans rfl, (blk_cell h.out 1).trans rfl, (blk_cell h.out 2).trans rfl, blk_frozen h.out 0, blk_frozen h.out 1, blk_frozen h.out 2⟩
theorem ds3_ {xa xb xc : Value} {t : TypeId} (h : Aside0 (w.heap[g]? = some (.cells #[xa, xb, xc] t (0, 0)))) : w.cell? ⟨g, 0, none⟩ = some xa ∧ w.cell? ⟨g, 1, none⟩ = some xb ∧ w.cell? ⟨g, 2, none⟩ = some xc := ⟨(blk_cell h.out 0).trans rfl, (blk_cell h.out 1).trans rfl, (blk_cell h.out 2).trans rfl⟩
theorem cs4_ {xa xb xc xd : Value} {t : TypeId} (h : Aside0 (w.heap[g]? = some (.cells #[xa, xb, xc, xd] t (0, 0)))) : w.cell? ⟨g, 0, none⟩ = some xa ∧ w.cell? ⟨g, 1, none⟩ = some xb ∧ w.cell? ⟨g, 2, none⟩ = some xc ∧ w.cell? ⟨g, 3, none⟩ = some xd ∧ w.frozen? ⟨g, 0, none⟩ = false ∧ w.frozen? ⟨g, 1, none⟩ = false ∧ w.frozen? ⟨g, 2, none⟩ = false ∧ w.frozen? ⟨g, 3, none⟩ = false := ⟨(blk_cell h.out 0).trans rfl, (blk_cell h.out 1).trans rfl, (blk_cell h.out 2).trans rfl, (blk_cell h.out 3).trans rfl, blk_frozen h.out 0, blk_frozen h.out 1, blk_frozen h.out 2, blk_frozen h.out 3⟩
theorem cs5_ {xa xb xc xd xe : Value} {t : TypeId} (h : Aside0 (w.heap[g]? = some (.cells #[xa, xb, xc, xd, xe] t (0, 0)))) : w.cell? ⟨g, 0, none⟩ = some xa ∧ w.cell? ⟨g, 1, none⟩ = some xb ∧ w.cell? ⟨g, 2, none⟩ = some xc ∧ w.cell? ⟨g, 3, none⟩ = some xd ∧ w.cell? ⟨g, 4, none⟩ = some xe ∧ w.frozen? ⟨g, 0, none⟩ = false ∧ w.frozen? ⟨g, 1, none⟩ = false ∧ w.frozen? ⟨g, 2, none⟩ = false ∧ w.frozen? ⟨g, 3, none⟩ = false ∧ w.frozen? ⟨g, 4, none⟩ = false := ⟨(blk_cell h.out 0).trans rfl, (blk_cell h.out 1).trans rfl, (blk_cell h.out 2).trans rfl, (blk_cell h.out 3).trans rfl, (blk_cell h.out 4).trans rfl, blk_frozen h.out 0, blk_frozen h.out 1, blk_frozen h.out 2, blk_frozen h.out 3, blk_frozen h.out 4⟩
theorem ds5_ {xa xb xc xd xe : Value} {t : TypeId} (h : Aside0 (w.heap[g]? = some (.cells #[xa, xb, xc, xd, xe] t (0, 0)))) : w.cell? ⟨g, 0, none⟩ = some xa ∧ w.cell? ⟨g, 1, none⟩ = some xb ∧ w.cell? ⟨g, 2, none⟩ = some xc ∧ w.cell? ⟨g, 3, none⟩ = some xd ∧ w.cell? ⟨g, 4, none⟩ = some xe := ⟨(blk_cell h.out 0).trans rfl, (blk_cell h.out 1).trans rfl, (blk_cell h.out 2).trans rfl, (blk_cell h.out 3).trans rfl, (blk_cell h.out 4).trans rfl⟩
theorem cs8_ {xa xb xc xd xe xf xg xh : Value} {t : TypeId} (h : Aside0 (w.heap[g]? = some (.cells #[xa, xb, xc, xd, xe, xf, xg, xh] t (0, 0)))) : w.cell? ⟨g, 0, none⟩ = some xa ∧ w.cell? ⟨g, 1, none⟩ = some xb ∧ w.cell? ⟨g, 2, none⟩ = some xc ∧ w.cell? ⟨g, 3, none⟩ = some xd ∧ w.cell? ⟨g, 4, none⟩ = some xe ∧ w.cell? ⟨g, 5, none⟩ = some xf ∧ w.cell? ⟨g, 6, none⟩ = some xg ∧ w.cell? ⟨g, 7, none⟩ = some xh ∧ w.frozen? ⟨g, 0, none⟩ = false ∧ w.frozen? ⟨g, 1, none⟩ = false ∧ w.frozen? ⟨g, 2, none⟩ = false ∧ w.frozen? ⟨g, 3, none⟩ = false ∧ w.frozen? ⟨g, 4, none⟩ = false ∧ w.frozen? ⟨g, 5, none⟩ = false ∧ w.frozen? ⟨g, 6, none⟩ = false ∧ w.frozen? ⟨g, 7, none⟩ = false := ⟨(blk_cell h.out 0).trans rfl, (blk_cell h.out 1).trans rfl, (blk_cell h.out 2).trans rfl, (blk_cell h.out 3).trans rfl, (blk_cell h.out 4).trans rfl, (blk_cell h.out 5).trans rfl, (blk_cell h.out 6).trans rfl, (blk_cell h.out 7).trans rfl, blk_frozen h.out 0, blk_frozen h.out 1, blk_frozen h.out 2, blk_frozen h.out 3, blk_frozen h.out 4, blk_frozen h.out 5, blk_frozen h.out 6, blk_frozen h.out 7⟩
theorem ds8_ {xa xb xc xd xe xf xg xh : Value} {t : TypeId} (h : Aside0 (w.heap[g]? = some (.cells #[xa, xb, xc, xd, xe, xf, xg, xh] t (0, 0)))) : w.cell? ⟨g, 0, none⟩ = some xa ∧ w.cell? ⟨g, 1, none⟩ = some xb ∧ w.cell? ⟨g, 2, none⟩ = some xc ∧ w.cell? ⟨g, 3, none⟩ = some xd ∧ w.cell? ⟨g, 4, none⟩ = some xe ∧ w.cell? ⟨g, 5, none⟩ = some xf ∧ w.cell? ⟨g, 6, none⟩ = some xg ∧ w.cell? ⟨g, 7, none⟩ = some xh := ⟨(blk_cell h.out 0).trans rfl, (blk_cell h.out 1).trans rfl, (blk_cell h.out 2).trans rfl, (blk_cell h.out 3).trans rfl, (blk_cell h.out 4).trans rfl, (blk_cell h.out 5).trans rfl, (blk_cell h.out 6).trans rfl, (blk_cell h.out 7).trans rfl⟩
theorem cs9_ {xa xb xc xd xe xf xg xh xi : Value} {t : TypeId} (h : Aside0 (w.heap[g]? = some (.cells #[xa, xb, xc, xd, xe, xf, xg, xh, xi] t (0, 0)))) : w.cell? ⟨g, 0, none⟩ = some xa ∧ w.cell? ⟨g, 1, none⟩ = some xb ∧ w.cell? ⟨g, 2, none⟩ = some xc ∧ w.cell? ⟨g, 3, none⟩ = some xd ∧ w.cell? ⟨g, 4, none⟩ = some xe ∧ w.cell? ⟨g, 5, none⟩ = some xf ∧ w.cell? ⟨g, 6, none⟩ = some xg ∧ w.cell? ⟨g, 7, none⟩ = some xh ∧ w.cell? ⟨g, 8, none⟩ = some xi ∧ w.frozen? ⟨g, 0, none⟩ = false ∧ w.frozen? ⟨g, 1, none⟩ = false ∧ w.frozen? ⟨g, 2, none⟩ = false ∧ w.frozen? ⟨g, 3, none⟩ = false ∧ w.frozen? ⟨g, 4, none⟩ = false ∧ w.frozen? ⟨g, 5, none⟩ = false ∧ w.frozen? ⟨g, 6, none⟩ = false ∧ w.frozen? ⟨g, 7, none⟩ = false ∧ w.frozen? ⟨g, 8, none⟩ = false := ⟨(blk_cell h.out 0).trans rfl, (blk_cell h.out 1).trans rfl, (blk_cell h.out 2).trans rfl, (blk_cell h.out 3).trans rfl, (blk_cell h.out 4).trans rfl, (blk_cell h.out 5).trans rfl, (blk_cell h.out 6).trans rfl, (blk_cell h.out 7).trans rfl, (blk_cell h.out 8).trans rfl, blk_frozen h.out 0, blk_frozen h.out 1, blk_frozen h.out 2, blk_frozen h.out 3, blk_frozen h.out 4, blk_frozen h.out 5, blk_frozen h.out 6, blk_frozen h.out 7, blk_frozen h.out 8⟩
theorem ox {v : Value} {a : Addr} {u : World} (b : Aside0 (Below u.heap.size u w)) (h : u.cell? a = some v) : w.cell? a = some v := (b.out.cell (World.block_lt_of_cell? u _ h)).trans h
theorem cz {v : Value} {cs : Array Value} {t : TypeId} (b : Aside0 (w.heap[g]? = some (.cells cs t (0, 0)))) (i : Nat) (h : cs[i]? = some v := by exact rfl) : w.cell? ⟨g, i, none⟩ = some v := (blk_cell b.out i).trans h
theorem bf {t : TypeId} {cs : Array Value} (b : Aside0 (w.heap[g]? = some (.cells cs t (0, 0)))) (f : w.heap[g]? = some (.cells cs t (0, 0)) → w'.heap[g]? = some (.cells cs t (0, 0)) := by intro h; repeat (first | (with_reducible exact h) | (with_reducible first | refine blk_drewN ?_ _ | refine blk_drew ?_ | refine blk_alloc ?_ _) | refine blk_far ?_ (Aside0.out (by assumption)) _ | exact h)) : w'.heap[g]? = some (.cells cs t (0, 0)) := f b.out
theorem bd (b : Aside0 (w.heap[g]? = some o)) : Aside0 (w.drew.heap[g]? = some o) := ⟨blk_drew b.out⟩
theorem tb {B : Nat} {u : World} (b : Aside0 (Below B u w)) (f : Below B u w → Below B u w' := by intro h; repeat (first | (with_reducible first | exact h | apply below_alloc | apply pw_below_drewN | apply below_drew1 | refine below_set ?_ (Aside0.out (by assumption))) | exact h)) : Below B u w' := f b.out
theorem bs {u : World} (b : Aside0 (Below u.heap.size u w)) (hb : Below w'.heap.size w' w2) (f : Below u.heap.size u w → Below u.heap.size u w' := by intro h; repeat (first | (with_reducible first | exact h | apply below_alloc | apply pw_below_drewN | apply below_drew1 | refine below_set ?_ (Aside0.out (by assumption))) | exact h)) : Aside0 (Below u.heap.size u w2) := ⟨below_step (f b.out) hb⟩
theorem ge_ {u : World} (hg : g = w'.heap.size) (b : Aside0 (Below u.heap.size u w)) (f : Below u.heap.size u w → Below u.heap.size u w' := by intro h; repeat (first | (with_reducible first | exact h | apply below_alloc | apply pw_below_drewN | apply below_drew1 | refine below_set ?_ (Aside0.out (by assumption))) | exact h)) : u.heap.size ≤ g := by rw [hg]; exact below_size (f b.out)
theorem kr {α : Type} {d : Kd α} {e base : Nat} {ok : Nat → Prop} {v : Value} {xs : List α} (b : d.R e w base ok v xs) (f : d.R e w base ok v xs → d.R e w' base ok v xs := by intro h; (with_reducible repeat (first | apply Kd.R_alloc | apply Kd.R_drewN | apply Kd.R_drew)); exact h) : d.R e w' base ok v xs := f b
theorem rb {α : Type} {d : Kd α} {e base : Nat} {ok : Nat → Prop} {v : Value} {xs : List α} (b : Aside0 (d.R e w base ok v xs)) (hb : Below w'.heap.size w' w2) (f : d.R e w base ok v xs → d.R e w' base ok v xs := by intro h; (with_reducible repeat (first | apply Kd.R_alloc | apply Kd.R_drewN | apply Kd.R_drew)); exact h) : Aside0 (d.R e w2 base ok v xs) := ⟨Kd.R_below (f b.out) hb⟩
theorem rd_ {α : Type} {d : Kd α} {e base : Nat} {ok : Nat → Prop} {v : Value} {xs : List α} (b : Aside0 (d.R e w base ok v xs)) : Aside0 (d.R e w.drew base ok v xs) := ⟨Kd.R_drew b.out⟩
theorem kc {α : Type} {d : Kd α} {A : Option Addr} {n : Nat} {xs : List α} (r : Aside0 (d.C w A n xs)) (b : Aside0 (Below w.heap.size w w1)) (f : d.C w1 A n xs → d.C w' A n xs := by intro h; repeat (first | exact h | (with_reducible refine Kd.C_alloc ?_ _) | (with_reducible refine Kd.C_drewN ?_ _) | (with_reducible refine Kd.C_drew ?_))) : d.C w' A n xs := f (Kd.C_below r.out b.out)
end
section
variable {P : Program} {ops : Array Oper} {rest : List Oper} {o : Oper} {a : Act} {Q : Exit → Act → World → Prop} {W : World} {N : Tmp} {cs : Array Value} {t : TypeId}
theorem bx (h : ∀ g, g = W.heap.size → ∀ w1, w1.heap[g]? = some (.cells cs t (0, 0)) → Below W.heap.size W w1 → wpList P ops Q rest (a.put o.dst (.pointer (some ⟨g, 0, none⟩))) w1) (hd : o.dst = some N := by rfl) (hgd : o.guard = none := by rfl)
    (hrun : (execOp a.eval o).run P W = .ok (.value (.pointer (some ⟨W.heap.size, 0, none⟩))) (W.alloc (.cells cs t (0, 0))) := by first | (go_simp; done) | (go_simp; rfl)) : wpList P ops Q (o :: rest) a W := box_event hgd hd hrun h
theorem gL {oi : Oper} {w : World} (N : Tmp) {f : FuncId} {fn : Func} (hf : P.funcs[f]? = some fn) {ags : Array Operand} {ts : Array TypeId} (args : Array Value)
    (h : Calls P f args w fun e w' => ∃ v, e = .returned v ∧ wpList P ops Q rest (a.put (some N) v) w')
    (hd : oi.dst = some N := by rfl) (hg : oi.guard = none := by rfl) (hname : (fn.name == "runtime.NumGoroutine") = false := by kernel_rfl) (hb : fn.body.isSome = true := by rfl)
    (hop : oi.op = .call { callee := .value (.func f), args := ags, argTypes := ts } := by rfl)
    (hargs : ags.map a.eval = args := by (try simp only [List.map_toArray, List.map_cons, List.map_nil]); first | done | rfl | (simp only [List.length_drop, List.length_take]; rfl)) : wpList P ops Q (oi :: rest) a w := goesL_ (some N) hd hg hf hname hb args hop hargs h
theorem gS {oi : Oper} {w : World} {K : Act → World → Prop} {f : FuncId} {fn : Func} (hf : P.funcs[f]? = some fn) {ags : Array Operand} {ts : Array TypeId} (args : Array Value) {N : Option Tmp}
    (h : Calls P f args w fun e w' => ∃ v, e = .returned v ∧ K (a.put N v) w')
    (hN : oi.dst = N := by rfl) (hname : (fn.name == "runtime.NumGoroutine") = false := by kernel_rfl) (hb : fn.body.isSome = true := by rfl)
    (hw : Region.wanted oi (yielded ops a.tmps) = true := by rfl) (hop : oi.op = .call { callee := .value (.func f), args := ags, argTypes := ts } := by rfl)
    (hargs : ags.map a.eval = args := by (try simp only [List.map_toArray, List.map_cons, List.map_nil]); first | done | rfl | (simp only [List.length_drop, List.length_take]; rfl)) : if Region.wanted oi (yielded ops a.tmps) = true then Oper.wp P oi a w K Q else K (a.put N undef) w := goes_ hf hname hb args hw hN hop hargs h
end
section
variable {P : Program} {ops : Array Oper} {Q : Exit → Act → World → Prop} {md : Region.Mode} {S : World → Prop} {ds : List Nat} {oi : Oper} {fuel : Nat} {l l' : Array Bool} {a a' : Act} {w : World} {v : Value}
theorem pu (i : Nat) (N : Tmp) (h : wpAnyLast P md ops Q S ds fuel l' a' w)
    (hi : ops[i]? = some oi := by exact rfl) (hN : oi.dst = some N := by exact rfl) (_hl : l.setIfInBounds i true = l' := by simp only [sA, sB, sC]; rfl)
    (hc : anyB md ops l l' i = true := by first | exact any_of HT_.out (by kernel_rfl) | kernel_rfl)
    (hQ : ∀ c a w, Q (.panic c) (a.put oi.dst v) w → Q (.panic c) a w := by exact fun _ _ _ h => h)
    (hy : Yields P ops oi v a := by exact Or.inl ⟨by rfl, by intro w'; go_simp; with_reducible rfl⟩)
    (ha : a.put (some N) v = a' := by simp only [Act.put, sA, sB, sC, i64_w, i32_w]; rfl) : wpAnyLast P md ops Q S ds (fuel + 1) l a w := pure_ l' hi hN hc hQ hy ha h
theorem pn (i : Nat) (N : Tmp) (h : wpAnyLast P md ops Q S ds fuel l' a' w)
    (hi : ops[i]? = some oi := by exact rfl) (hN : oi.dst = some N := by exact rfl) (_hl : l.setIfInBounds i true = l' := by simp only [sA, sB, sC]; rfl)
    (hc : anyB md ops l l' i = true := by first | exact any_of HT_.out (by kernel_rfl) | kernel_rfl)
    (hQ : ∀ c a w, Q (.panic c) (a.put oi.dst undef) w → Q (.panic c) a w := by exact fun _ _ _ h => h)
    (hy : Yields P ops oi undef a := by exact Or.inr ⟨by rfl, rfl⟩)
    (ha : a.put (some N) undef = a' := by simp only [Act.put, sA, sB, sC, i64_w, i32_w]; rfl) : wpAnyLast P md ops Q S ds (fuel + 1) l a w := pure_ l' hi hN hc hQ hy ha h
theorem ta (i : Nat) (N : Tmp) (h : wpAnyLast P md ops Q S ds fuel l' a' w)
    (hi : ops[i]? = some oi := by exact rfl) (hN : oi.dst = some N := by exact rfl) (_hl : l.setIfInBounds i true = l' := by simp only [sA, sB, sC]; rfl)
    (hc : takeB md ops ds l l' i = true := by first | exact take_ofW HT_.out HW_.out (by kernel_rfl) | kernel_rfl)
    (hQ : ∀ c a w, Q (.panic c) (a.put oi.dst v) w → Q (.panic c) a w := by exact fun _ _ _ h => h)
    (hy : YieldsIf P ops S oi v a := by exact Or.inl ⟨by rfl, by intro w' hs; (repeat (obtain ⟨_, hs⟩ := hs)); go_simp; with_reducible rfl⟩)
    (hS : S w := by exact hHeld)
    (ha : a.put (some N) v = a' := by simp only [Act.put, sA, sB, sC, i64_w, i32_w]; rfl) : wpAnyLast P md ops Q S ds (fuel + 1) l a w := take_ l' hi hN hc hQ hy hS ha h
theorem nm (N : Tmp) (h : wpAnyLast P md ops Q S ds fuel l a' w) (ha : a.put (some N) v = a' := by simp only [Act.put, sA, sB, sC, i64_w, i32_w]; rfl) : wpAnyLast P md ops Q S ds fuel l (a.put (some N) v) w := norm_ ha h
theorem gd {rest : List Oper} {o : Oper} (N : Tmp) (_hN : o.dst = some N) (h : wpList P ops Q (o :: rest) a w) : wpList P ops Q (o :: rest) a w := h
end
end Go.Proofs.YtopikhjcbcpiaaaGreat.Q
end
section
namespace Go.Proofs.YtopikhjcbcpiaaaGreat.Q
open Go.RowKit Go.Proofs.YtopikhjcbcpiaaaGreatW.PrintWords Go.Proofs.YtopikhjcbcpiaaaGreatW.PrintLast Go.Proofs.YtopikhjcbcpiaaaGreatW.PrintMore
theorem ipt {α : Type} {a b c : α} (h : (if true = true then a else b) = c) : a = c := by rwa [if_pos rfl] at h
theorem ipf {α : Type} {a b c : α} (h : (if false = true then a else b) = c) : b = c := by rwa [if_neg (by decide)] at h
theorem bn {α β : Type} {x : Option α} {f : α → Option β} {r : β} (h : x.bind f = some r) : ∃ a, Aside0 (x = some a) ∧ f a = some r := by
  obtain ⟨a, h1, h2⟩ := Option.bind_eq_some_iff.mp h
  exact ⟨a, ⟨h1⟩, h2⟩
theorem oin {α : Type} {a b : α} (h : some a = some b) : a = b := Option.some.inj h
theorem rsd {p : Prop} (h : p := by first | rfl | (simp; done) | (simp [*]; done)) : p := h
section
variable {P : Program} {ops : Array Oper} {rest : List Oper} {o : Oper} {a : Act} {Q : Exit → Act → World → Prop} {W : World}
theorem gq (N : Tmp) (_hN : o.dst = some N) (h : wpList P ops Q (o :: rest) a W) : wpList P ops Q (o :: rest) a W := h
theorem gf (f : FuncId) {az : Array Operand} {ts : Array TypeId} (_ho : o.op = .call { callee := .value (.func f), args := az, argTypes := ts }) (h : wpList P ops Q (o :: rest) a W) : wpList P ops Q (o :: rest) a W := h
end
section
variable {P : Program} {ops : Array Oper} {Q : Exit → Act → World → Prop}
theorem on1 {md : Region.Mode} {S : World → Prop} {ds : List Nat} {oi : Oper} {fuel : Nat} {l l' : Array Bool} {a : Act} {w : World} (i : Nat) (N : Option Tmp) (h : ∀ K : Act → World → Prop, Shut (∀ a' w', S w' → (S w' → wpAnyLast P md ops Q S ds fuel l' a' w') → K a' w') → if Region.wanted oi (yielded ops a.tmps) = true then Oper.wp P oi a w K Q else K (a.put N undef) w)
    (hi : ops[i]? = some oi := by exact rfl) (hN : oi.dst = N := by exact rfl) (_hl : l.setIfInBounds i true = l' := by simp only [sA, sB, sC]; rfl) (hc : readyB md ops l l' i = true := by exact one_of HT_.out (by kernel_rfl)) (hd : i ∉ ds := by decide) : wpAnyLast P md ops Q S ds (fuel + 1) l a w := one_ l' hi hN hc hd h
end
theorem itd {c : Prop} [Decidable c] {α : Type} {a : Option α} {r : α} (h : (if c then a else none) = some r) : decide c = true ∧ a = some r := by by_cases p : c <;> simp_all
theorem itb {c : Prop} [Decidable c] {α : Type} {a : Option α} {r : α} (h : (if c then a else none) = some r) : c = True ∧ decide c = true ∧ a = some r := by by_cases p : c <;> simp_all
theorem icd {c : Prop} [Decidable c] {α : Type} {a b r : α} {G : Prop} (f : decide c = true → a = r → G) (g : decide c = false → b = r → G) (h : (if c then a else b) = r) : G := by
  by_cases p : c
  · rw [if_pos p] at h; exact f (decide_eq_true p) h
  · rw [if_neg p] at h; exact g (decide_eq_false p) h
section
variable {w w' w2 : World} {g : Nat} {t : TypeId} {cs : Array Value}
theorem bbf (b : Aside0 (w.heap[g]? = some (.cells cs t (0, 0)))) (hb : Below w'.heap.size w' w2) (f : w.heap[g]? = some (.cells cs t (0, 0)) → w'.heap[g]? = some (.cells cs t (0, 0)) := by intro h; exact bf ⟨h⟩) : Aside0 (w2.heap[g]? = some (.cells cs t (0, 0))) := ⟨blk_below (f b.out) hb⟩
theorem put2_ {xa xb ya yb : Value} (h : w.heap[g]? = some (.cells #[xa, xb] t (0, 0))) : ((w.setCell ⟨g, 0, none⟩ ya).setCell ⟨g, 1, none⟩ yb).heap[g]? = some (.cells #[ya, yb] t (0, 0)) := (blk_put (cs := #[ya, xb]) (blk_put (cs := #[xa, xb]) (h) 0 _ rfl) 1 _ rfl)
theorem put3_ {xa xb xc ya yb yc : Value} (h : w.heap[g]? = some (.cells #[xa, xb, xc] t (0, 0))) : (((w.setCell ⟨g, 0, none⟩ ya).setCell ⟨g, 1, none⟩ yb).setCell ⟨g, 2, none⟩ yc).heap[g]? = some (.cells #[ya, yb, yc] t (0, 0)) := (blk_put (cs := #[ya, yb, xc]) (blk_put (cs := #[ya, xb, xc]) (blk_put (cs := #[xa, xb, xc]) (h) 0 _ rfl) 1 _ rfl) 2 _ rfl)
theorem bbp3 {xa xb xc ya yb yc : Value} (b : Aside0 (w.heap[g]? = some (.cells #[xa, xb, xc] t (0, 0)))) (hb : Below w'.heap.size w' w2) (f : w.heap[g]? = some (.cells #[xa, xb, xc] t (0, 0)) → w'.heap[g]? = some (.cells #[ya, yb, yc] t (0, 0)) := by intro h; (with_reducible repeat (first | refine blk_drewN ?_ _ | refine blk_drew ?_ | refine blk_alloc ?_ _)); apply put3_; (with_reducible repeat (first | refine blk_drewN ?_ _ | refine blk_drew ?_ | refine blk_alloc ?_ _)); exact h) : Aside0 (w2.heap[g]? = some (.cells #[ya, yb, yc] t (0, 0))) := ⟨blk_below (f b.out) hb⟩
theorem put4_ {xa xb xc xd ya yb yc yd : Value} (h : w.heap[g]? = some (.cells #[xa, xb, xc, xd] t (0, 0))) : ((((w.setCell ⟨g, 0, none⟩ ya).setCell ⟨g, 1, none⟩ yb).setCell ⟨g, 2, none⟩ yc).setCell ⟨g, 3, none⟩ yd).heap[g]? = some (.cells #[ya, yb, yc, yd] t (0, 0)) := (blk_put (cs := #[ya, yb, yc, xd]) (blk_put (cs := #[ya, yb, xc, xd]) (blk_put (cs := #[ya, xb, xc, xd]) (blk_put (cs := #[xa, xb, xc, xd]) (h) 0 _ rfl) 1 _ rfl) 2 _ rfl) 3 _ rfl)
theorem put5_ {xa xb xc xd xe ya yb yc yd ye : Value} (h : w.heap[g]? = some (.cells #[xa, xb, xc, xd, xe] t (0, 0))) : (((((w.setCell ⟨g, 0, none⟩ ya).setCell ⟨g, 1, none⟩ yb).setCell ⟨g, 2, none⟩ yc).setCell ⟨g, 3, none⟩ yd).setCell ⟨g, 4, none⟩ ye).heap[g]? = some (.cells #[ya, yb, yc, yd, ye] t (0, 0)) := (blk_put (cs := #[ya, yb, yc, yd, xe]) (blk_put (cs := #[ya, yb, yc, xd, xe]) (blk_put (cs := #[ya, yb, xc, xd, xe]) (blk_put (cs := #[ya, xb, xc, xd, xe]) (blk_put (cs := #[xa, xb, xc, xd, xe]) (h) 0 _ rfl) 1 _ rfl) 2 _ rfl) 3 _ rfl) 4 _ rfl)
theorem bbp5 {xa xb xc xd xe ya yb yc yd ye : Value} (b : Aside0 (w.heap[g]? = some (.cells #[xa, xb, xc, xd, xe] t (0, 0)))) (hb : Below w'.heap.size w' w2) (f : w.heap[g]? = some (.cells #[xa, xb, xc, xd, xe] t (0, 0)) → w'.heap[g]? = some (.cells #[ya, yb, yc, yd, ye] t (0, 0)) := by intro h; (with_reducible repeat (first | refine blk_drewN ?_ _ | refine blk_drew ?_ | refine blk_alloc ?_ _)); apply put5_; (with_reducible repeat (first | refine blk_drewN ?_ _ | refine blk_drew ?_ | refine blk_alloc ?_ _)); exact h) : Aside0 (w2.heap[g]? = some (.cells #[ya, yb, yc, yd, ye] t (0, 0))) := ⟨blk_below (f b.out) hb⟩
theorem put8_ {xa xb xc xd xe xf xg xh ya yb yc yd ye yf yg yh : Value} (h : w.heap[g]? = some (.cells #[xa, xb, xc, xd, xe, xf, xg, xh] t (0, 0))) : ((((((((w.setCell ⟨g, 0, none⟩ ya).setCell ⟨g, 1, none⟩ yb).setCell ⟨g, 2, none⟩ yc).setCell ⟨g, 3, none⟩ yd).setCell ⟨g, 4, none⟩ ye).setCell ⟨g, 5, none⟩ yf).setCell ⟨g, 6, none⟩ yg).setCell ⟨g, 7, none⟩ yh).heap[g]? = some (.cells #[ya, yb, yc, yd, ye, yf, yg, yh] t (0, 0)) := (blk_put (cs := #[ya, yb, yc, yd, ye, yf, yg, xh]) (blk_put (cs := #[ya, yb, yc, yd, ye, yf, xg, xh]) (blk_put (cs := #[ya, yb, yc, yd, ye, xf, xg, xh]) (blk_put (cs := #[ya, yb, yc, yd, xe, xf, xg, xh]) (blk_put (cs := #[ya, yb, yc, xd, xe, xf, xg, xh]) (blk_put (cs := #[ya, yb, xc, xd, xe, xf, xg, xh]) (blk_put (cs := #[ya, xb, xc, xd, xe, xf, xg, xh]) (blk_put (cs := #[xa, xb, xc, xd, xe, xf, xg, xh]) (h) 0 _ rfl) 1 _ rfl) 2 _ rfl) 3 _ rfl) 4 _ rfl) 5 _ rfl) 6 _ rfl) 7 _ rfl)
theorem bbp8 {xa xb xc xd xe xf xg xh ya yb yc yd ye yf yg yh : Value} (b : Aside0 (w.heap[g]? = some (.cells #[xa, xb, xc, xd, xe, xf, xg, xh] t (0, 0)))) (hb : Below w'.heap.size w' w2) (f : w.heap[g]? = some (.cells #[xa, xb, xc, xd, xe, xf, xg, xh] t (0, 0)) → w'.heap[g]? = some (.cells #[ya, yb, yc, yd, ye, yf, yg, yh] t (0, 0)) := by intro h; (with_reducible repeat (first | refine blk_drewN ?_ _ | refine blk_drew ?_ | refine blk_alloc ?_ _)); apply put8_; (with_reducible repeat (first | refine blk_drewN ?_ _ | refine blk_drew ?_ | refine blk_alloc ?_ _)); exact h) : Aside0 (w2.heap[g]? = some (.cells #[ya, yb, yc, yd, ye, yf, yg, yh] t (0, 0))) := ⟨blk_below (f b.out) hb⟩
theorem put9_ {xa xb xc xd xe xf xg xh xi ya yb yc yd ye yf yg yh yi : Value} (h : w.heap[g]? = some (.cells #[xa, xb, xc, xd, xe, xf, xg, xh, xi] t (0, 0))) : (((((((((w.setCell ⟨g, 0, none⟩ ya).setCell ⟨g, 1, none⟩ yb).setCell ⟨g, 2, none⟩ yc).setCell ⟨g, 3, none⟩ yd).setCell ⟨g, 4, none⟩ ye).setCell ⟨g, 5, none⟩ yf).setCell ⟨g, 6, none⟩ yg).setCell ⟨g, 7, none⟩ yh).setCell ⟨g, 8, none⟩ yi).heap[g]? = some (.cells #[ya, yb, yc, yd, ye, yf, yg, yh, yi] t (0, 0)) := (blk_put (cs := #[ya, yb, yc, yd, ye, yf, yg, yh, xi]) (blk_put (cs := #[ya, yb, yc, yd, ye, yf, yg, xh, xi]) (blk_put (cs := #[ya, yb, yc, yd, ye, yf, xg, xh, xi]) (blk_put (cs := #[ya, yb, yc, yd, ye, xf, xg, xh, xi]) (blk_put (cs := #[ya, yb, yc, yd, xe, xf, xg, xh, xi]) (blk_put (cs := #[ya, yb, yc, xd, xe, xf, xg, xh, xi]) (blk_put (cs := #[ya, yb, xc, xd, xe, xf, xg, xh, xi]) (blk_put (cs := #[ya, xb, xc, xd, xe, xf, xg, xh, xi]) (blk_put (cs := #[xa, xb, xc, xd, xe, xf, xg, xh, xi]) (h) 0 _ rfl) 1 _ rfl) 2 _ rfl) 3 _ rfl) 4 _ rfl) 5 _ rfl) 6 _ rfl) 7 _ rfl) 8 _ rfl)
theorem bbp9 {xa xb xc xd xe xf xg xh xi ya yb yc yd ye yf yg yh yi : Value} (b : Aside0 (w.heap[g]? = some (.cells #[xa, xb, xc, xd, xe, xf, xg, xh, xi] t (0, 0)))) (hb : Below w'.heap.size w' w2) (f : w.heap[g]? = some (.cells #[xa, xb, xc, xd, xe, xf, xg, xh, xi] t (0, 0)) → w'.heap[g]? = some (.cells #[ya, yb, yc, yd, ye, yf, yg, yh, yi] t (0, 0)) := by intro h; (with_reducible repeat (first | refine blk_drewN ?_ _ | refine blk_drew ?_ | refine blk_alloc ?_ _)); apply put9_; (with_reducible repeat (first | refine blk_drewN ?_ _ | refine blk_drew ?_ | refine blk_alloc ?_ _)); exact h) : Aside0 (w2.heap[g]? = some (.cells #[ya, yb, yc, yd, ye, yf, yg, yh, yi] t (0, 0))) := ⟨blk_below (f b.out) hb⟩
theorem bfp2 {xa xb ya yb : Value} (b : Aside0 (w.heap[g]? = some (.cells #[xa, xb] t (0, 0)))) (f : w.heap[g]? = some (.cells #[xa, xb] t (0, 0)) → w'.heap[g]? = some (.cells #[ya, yb] t (0, 0)) := by intro h; (repeat (first | (with_reducible first | exact h | refine blk_drewN ?_ _ | refine blk_drew ?_ | refine blk_alloc ?_ _) | refine blk_far ?_ (Aside0.out (by assumption)) _)); apply put2_; (repeat (first | (with_reducible first | exact h | refine blk_drewN ?_ _ | refine blk_drew ?_ | refine blk_alloc ?_ _) | refine blk_far ?_ (Aside0.out (by assumption)) _)); done) : w'.heap[g]? = some (.cells #[ya, yb] t (0, 0)) := f b.out
theorem bfp3 {xa xb xc ya yb yc : Value} (b : Aside0 (w.heap[g]? = some (.cells #[xa, xb, xc] t (0, 0)))) (f : w.heap[g]? = some (.cells #[xa, xb, xc] t (0, 0)) → w'.heap[g]? = some (.cells #[ya, yb, yc] t (0, 0)) := by intro h; (repeat (first | (with_reducible first | exact h | refine blk_drewN ?_ _ | refine blk_drew ?_ | refine blk_alloc ?_ _) | refine blk_far ?_ (Aside0.out (by assumption)) _)); apply put3_; (repeat (first | (with_reducible first | exact h | refine blk_drewN ?_ _ | refine blk_drew ?_ | refine blk_alloc ?_ _) | refine blk_far ?_ (Aside0.out (by assumption)) _)); done) : w'.heap[g]? = some (.cells #[ya, yb, yc] t (0, 0)) := f b.out
theorem bfp4 {xa xb xc xd ya yb yc yd : Value} (b : Aside0 (w.heap[g]? = some (.cells #[xa, xb, xc, xd] t (0, 0)))) (f : w.heap[g]? = some (.cells #[xa, xb, xc, xd] t (0, 0)) → w'.heap[g]? = some (.cells #[ya, yb, yc, yd] t (0, 0)) := by intro h; (repeat (first | (with_reducible first | exact h | refine blk_drewN ?_ _ | refine blk_drew ?_ | refine blk_alloc ?_ _) | refine blk_far ?_ (Aside0.out (by assumption)) _)); apply put4_; (repeat (first | (with_reducible first | exact h | refine blk_drewN ?_ _ | refine blk_drew ?_ | refine blk_alloc ?_ _) | refine blk_far ?_ (Aside0.out (by assumption)) _)); done) : w'.heap[g]? = some (.cells #[ya, yb, yc, yd] t (0, 0)) := f b.out
theorem bfp5 {xa xb xc xd xe ya yb yc yd ye : Value} (b : Aside0 (w.heap[g]? = some (.cells #[xa, xb, xc, xd, xe] t (0, 0)))) (f : w.heap[g]? = some (.cells #[xa, xb, xc, xd, xe] t (0, 0)) → w'.heap[g]? = some (.cells #[ya, yb, yc, yd, ye] t (0, 0)) := by intro h; (repeat (first | (with_reducible first | exact h | refine blk_drewN ?_ _ | refine blk_drew ?_ | refine blk_alloc ?_ _) | refine blk_far ?_ (Aside0.out (by assumption)) _)); apply put5_; (repeat (first | (with_reducible first | exact h | refine blk_drewN ?_ _ | refine blk_drew ?_ | refine blk_alloc ?_ _) | refine blk_far ?_ (Aside0.out (by assumption)) _)); done) : w'.heap[g]? = some (.cells #[ya, yb, yc, yd, ye] t (0, 0)) := f b.out
theorem bfp8 {xa xb xc xd xe xf xg xh ya yb yc yd ye yf yg yh : Value} (b : Aside0 (w.heap[g]? = some (.cells #[xa, xb, xc, xd, xe, xf, xg, xh] t (0, 0)))) (f : w.heap[g]? = some (.cells #[xa, xb, xc, xd, xe, xf, xg, xh] t (0, 0)) → w'.heap[g]? = some (.cells #[ya, yb, yc, yd, ye, yf, yg, yh] t (0, 0)) := by intro h; (repeat (first | (with_reducible first | exact h | refine blk_drewN ?_ _ | refine blk_drew ?_ | refine blk_alloc ?_ _) | refine blk_far ?_ (Aside0.out (by assumption)) _)); apply put8_; (repeat (first | (with_reducible first | exact h | refine blk_drewN ?_ _ | refine blk_drew ?_ | refine blk_alloc ?_ _) | refine blk_far ?_ (Aside0.out (by assumption)) _)); done) : w'.heap[g]? = some (.cells #[ya, yb, yc, yd, ye, yf, yg, yh] t (0, 0)) := f b.out
theorem bfp9 {xa xb xc xd xe xf xg xh xi ya yb yc yd ye yf yg yh yi : Value} (b : Aside0 (w.heap[g]? = some (.cells #[xa, xb, xc, xd, xe, xf, xg, xh, xi] t (0, 0)))) (f : w.heap[g]? = some (.cells #[xa, xb, xc, xd, xe, xf, xg, xh, xi] t (0, 0)) → w'.heap[g]? = some (.cells #[ya, yb, yc, yd, ye, yf, yg, yh, yi] t (0, 0)) := by intro h; (repeat (first | (with_reducible first | exact h | refine blk_drewN ?_ _ | refine blk_drew ?_ | refine blk_alloc ?_ _) | refine blk_far ?_ (Aside0.out (by assumption)) _)); apply put9_; (repeat (first | (with_reducible first | exact h | refine blk_drewN ?_ _ | refine blk_drew ?_ | refine blk_alloc ?_ _) | refine blk_far ?_ (Aside0.out (by assumption)) _)); done) : w'.heap[g]? = some (.cells #[ya, yb, yc, yd, ye, yf, yg, yh, yi] t (0, 0)) := f b.out
theorem ox2 {pa pb : Addr} {xa xb : Value} {u : World} (b : Aside0 (Below u.heap.size u w)) (h : u.cell? pa = some xa ∧ u.cell? pb = some xb) : w.cell? pa = some xa ∧ w.cell? pb = some xb := ⟨ox b h.1, ox b h.2⟩
theorem ox3 {pa pb pc : Addr} {xa xb xc : Value} {u : World} (b : Aside0 (Below u.heap.size u w)) (h : u.cell? pa = some xa ∧ u.cell? pb = some xb ∧ u.cell? pc = some xc) : w.cell? pa = some xa ∧ w.cell? pb = some xb ∧ w.cell? pc = some xc := ⟨ox b h.1, ox b h.2.1, ox b h.2.2⟩
theorem ox4 {pa pb pc pd : Addr} {xa xb xc xd : Value} {u : World} (b : Aside0 (Below u.heap.size u w)) (h : u.cell? pa = some xa ∧ u.cell? pb = some xb ∧ u.cell? pc = some xc ∧ u.cell? pd = some xd) : w.cell? pa = some xa ∧ w.cell? pb = some xb ∧ w.cell? pc = some xc ∧ w.cell? pd = some xd := ⟨ox b h.1, ox b h.2.1, ox b h.2.2.1, ox b h.2.2.2⟩
theorem ox5 {pa pb pc pd pe : Addr} {xa xb xc xd xe : Value} {u : World} (b : Aside0 (Below u.heap.size u w)) (h : u.cell? pa = some xa ∧ u.cell? pb = some xb ∧ u.cell? pc = some xc ∧ u.cell? pd = some xd ∧ u.cell? pe = some xe) : w.cell? pa = some xa ∧ w.cell? pb = some xb ∧ w.cell? pc = some xc ∧ w.cell? pd = some xd ∧ w.cell? pe = some xe := ⟨ox b h.1, ox b h.2.1, ox b h.2.2.1, ox b h.2.2.2.1, ox b h.2.2.2.2⟩
theorem ox9 {pa pb pc pd pe pf pg ph pi : Addr} {xa xb xc xd xe xf xg xh xi : Value} {u : World} (b : Aside0 (Below u.heap.size u w)) (h : u.cell? pa = some xa ∧ u.cell? pb = some xb ∧ u.cell? pc = some xc ∧ u.cell? pd = some xd ∧ u.cell? pe = some xe ∧ u.cell? pf = some xf ∧ u.cell? pg = some xg ∧ u.cell? ph = some xh ∧ u.cell? pi = some xi) : w.cell? pa = some xa ∧ w.cell? pb = some xb ∧ w.cell? pc = some xc ∧ w.cell? pd = some xd ∧ w.cell? pe = some xe ∧ w.cell? pf = some xf ∧ w.cell? pg = some xg ∧ w.cell? ph = some xh ∧ w.cell? pi = some xi := ⟨ox b h.1, ox b h.2.1, ox b h.2.2.1, ox b h.2.2.2.1, ox b h.2.2.2.2.1, ox b h.2.2.2.2.2.1, ox b h.2.2.2.2.2.2.1, ox b h.2.2.2.2.2.2.2.1, ox b h.2.2.2.2.2.2.2.2⟩
abbrev cS2 (g : Nat) (xa xb : Value) (w : World) : Prop := w.cell? ⟨g, 0, none⟩ = some xa ∧ w.cell? ⟨g, 1, none⟩ = some xb
abbrev cS3 (g : Nat) (xa xb xc : Value) (w : World) : Prop := w.cell? ⟨g, 0, none⟩ = some xa ∧ w.cell? ⟨g, 1, none⟩ = some xb ∧ w.cell? ⟨g, 2, none⟩ = some xc
abbrev cS5 (g : Nat) (xa xb xc xd xe : Value) (w : World) : Prop := w.cell? ⟨g, 0, none⟩ = some xa ∧ w.cell? ⟨g, 1, none⟩ = some xb ∧ w.cell? ⟨g, 2, none⟩ = some xc ∧ w.cell? ⟨g, 3, none⟩ = some xd ∧ w.cell? ⟨g, 4, none⟩ = some xe
abbrev cS8 (g : Nat) (xa xb xc xd xe xf xg xh : Value) (w : World) : Prop := w.cell? ⟨g, 0, none⟩ = some xa ∧ w.cell? ⟨g, 1, none⟩ = some xb ∧ w.cell? ⟨g, 2, none⟩ = some xc ∧ w.cell? ⟨g, 3, none⟩ = some xd ∧ w.cell? ⟨g, 4, none⟩ = some xe ∧ w.cell? ⟨g, 5, none⟩ = some xf ∧ w.cell? ⟨g, 6, none⟩ = some xg ∧ w.cell? ⟨g, 7, none⟩ = some xh
end
section
variable {P : Program} {ops : Array Oper} {rest : List Oper} {o : Oper} {a : Act} {Q : Exit → Act → World → Prop} {u W : World} {N : Tmp} {cs : Array Value} {t : TypeId}
theorem bx0 {ub : World} (B : Aside0 (Below u.heap.size u ub)) (h : ∀ g w1, Aside0 (w1.heap[g]? = some (.cells cs t (0, 0))) → Aside0 (u.heap.size ≤ g) → Aside0 (Below u.heap.size u w1) → wpList P ops Q rest (a.put o.dst (.pointer (some ⟨g, 0, none⟩))) w1) (hd : o.dst = some N := by rfl) (hgd : o.guard = none := by rfl)
    (hrun : (execOp a.eval o).run P W = .ok (.value (.pointer (some ⟨W.heap.size, 0, none⟩))) (W.alloc (.cells cs t (0, 0))) := by first | (go_simp; done) | (go_simp; rfl)) (fb : Below u.heap.size u ub → Below u.heap.size u W := by intro h; exact tb ⟨h⟩) : wpList P ops Q (o :: rest) a W :=
  bx (fun g hg w1 hbox hb => h g w1 ⟨hbox⟩ ⟨hg ▸ (fb B.out).size⟩ ⟨below_step (fb B.out) hb⟩) hd hgd hrun
theorem bx1 {ub : World} {g0 : Nat} {o0 : Obj} {u0 : World} (B : Aside0 (Below u.heap.size u ub)) (b0 : Aside0 (u0.heap[g0]? = some o0)) (h : ∀ g w1, Aside0 (w1.heap[g]? = some (.cells cs t (0, 0))) → Aside0 (u.heap.size ≤ g) → Aside0 (Below u.heap.size u w1) → Aside0 (g0 ≠ g) → Aside0 (g ≠ g0) → Aside0 (w1.heap[g0]? = some o0) → wpList P ops Q rest (a.put o.dst (.pointer (some ⟨g, 0, none⟩))) w1) (hd : o.dst = some N := by rfl) (hgd : o.guard = none := by rfl)
    (hrun : (execOp a.eval o).run P W = .ok (.value (.pointer (some ⟨W.heap.size, 0, none⟩))) (W.alloc (.cells cs t (0, 0))) := by first | (go_simp; done) | (go_simp; rfl)) (fb : Below u.heap.size u ub → Below u.heap.size u W := by intro h; exact tb ⟨h⟩) (f0 : u0.heap[g0]? = some o0 → W.heap[g0]? = some o0 := by intro h; exact bk ⟨h⟩) : wpList P ops Q (o :: rest) a W :=
  bx (fun g hg w1 hbox hb => h g w1 ⟨hbox⟩ ⟨hg ▸ (fb B.out).size⟩ ⟨below_step (fb B.out) hb⟩ ⟨Nat.ne_of_lt (hg ▸ blk_lt (f0 b0.out))⟩ ⟨Nat.ne_of_gt (hg ▸ blk_lt (f0 b0.out))⟩ ⟨blk_below (f0 b0.out) hb⟩) hd hgd hrun
theorem bx2 {ub : World} {g0 g1 : Nat} {o0 o1 : Obj} {u0 u1 : World} (B : Aside0 (Below u.heap.size u ub)) (b0 : Aside0 (u0.heap[g0]? = some o0)) (b1 : Aside0 (u1.heap[g1]? = some o1)) (h : ∀ g w1, Aside0 (w1.heap[g]? = some (.cells cs t (0, 0))) → Aside0 (u.heap.size ≤ g) → Aside0 (Below u.heap.size u w1) → Aside0 (g0 ≠ g) → Aside0 (g ≠ g0) → Aside0 (w1.heap[g0]? = some o0) → Aside0 (g1 ≠ g) → Aside0 (g ≠ g1) → Aside0 (w1.heap[g1]? = some o1) → wpList P ops Q rest (a.put o.dst (.pointer (some ⟨g, 0, none⟩))) w1) (hd : o.dst = some N := by rfl) (hgd : o.guard = none := by rfl)
    (hrun : (execOp a.eval o).run P W = .ok (.value (.pointer (some ⟨W.heap.size, 0, none⟩))) (W.alloc (.cells cs t (0, 0))) := by first | (go_simp; done) | (go_simp; rfl)) (fb : Below u.heap.size u ub → Below u.heap.size u W := by intro h; exact tb ⟨h⟩) (f0 : u0.heap[g0]? = some o0 → W.heap[g0]? = some o0 := by intro h; exact bk ⟨h⟩) (f1 : u1.heap[g1]? = some o1 → W.heap[g1]? = some o1 := by intro h; exact bk ⟨h⟩) : wpList P ops Q (o :: rest) a W :=
  bx (fun g hg w1 hbox hb => h g w1 ⟨hbox⟩ ⟨hg ▸ (fb B.out).size⟩ ⟨below_step (fb B.out) hb⟩ ⟨Nat.ne_of_lt (hg ▸ blk_lt (f0 b0.out))⟩ ⟨Nat.ne_of_gt (hg ▸ blk_lt (f0 b0.out))⟩ ⟨blk_below (f0 b0.out) hb⟩ ⟨Nat.ne_of_lt (hg ▸ blk_lt (f1 b1.out))⟩ ⟨Nat.ne_of_gt (hg ▸ blk_lt (f1 b1.out))⟩ ⟨blk_below (f1 b1.out) hb⟩) hd hgd hrun
theorem bx3 {ub : World} {g0 g1 g2 : Nat} {o0 o1 o2 : Obj} {u0 u1 u2 : World} (B : Aside0 (Below u.heap.size u ub)) (b0 : Aside0 (u0.heap[g0]? = some o0)) (b1 : Aside0 (u1.heap[g1]? = some o1)) (b2 : Aside0 (u2.heap[g2]? = some o2)) (h : ∀ g w1, Aside0 (w1.heap[g]? = some (.cells cs t (0, 0))) → Aside0 (u.heap.size ≤ g) → Aside0 (Below u.heap.size u w1) → Aside0 (g0 ≠ g) → Aside0 (g ≠ g0) → Aside0 (w1.heap[g0]? = some o0) → Aside0 (g1 ≠ g) → Aside0 (g ≠ g1) → Aside0 (w1.heap[g1]? = some o1) → Aside0 (g2 ≠ g) → Aside0 (g ≠ g2) → Aside0 (w1.heap[g2]? = some o2) → wpList P ops Q rest (a.put o.dst (.pointer (some ⟨g, 0, none⟩))) w1) (hd : o.dst = some N := by rfl) (hgd : o.guard = none := by rfl)
    (hrun : (execOp a.eval o).run P W = .ok (.value (.pointer (some ⟨W.heap.size, 0, none⟩))) (W.alloc (.cells cs t (0, 0))) := by first | (go_simp; done) | (go_simp; rfl)) (fb : Below u.heap.size u ub → Below u.heap.size u W := by intro h; exact tb ⟨h⟩) (f0 : u0.heap[g0]? = some o0 → W.heap[g0]? = some o0 := by intro h; exact bk ⟨h⟩) (f1 : u1.heap[g1]? = some o1 → W.heap[g1]? = some o1 := by intro h; exact bk ⟨h⟩) (f2 : u2.heap[g2]? = some o2 → W.heap[g2]? = some o2 := by intro h; exact bk ⟨h⟩) : wpList P ops Q (o :: rest) a W :=
  bx (fun g hg w1 hbox hb => h g w1 ⟨hbox⟩ ⟨hg ▸ (fb B.out).size⟩ ⟨below_step (fb B.out) hb⟩ ⟨Nat.ne_of_lt (hg ▸ blk_lt (f0 b0.out))⟩ ⟨Nat.ne_of_gt (hg ▸ blk_lt (f0 b0.out))⟩ ⟨blk_below (f0 b0.out) hb⟩ ⟨Nat.ne_of_lt (hg ▸ blk_lt (f1 b1.out))⟩ ⟨Nat.ne_of_gt (hg ▸ blk_lt (f1 b1.out))⟩ ⟨blk_below (f1 b1.out) hb⟩ ⟨Nat.ne_of_lt (hg ▸ blk_lt (f2 b2.out))⟩ ⟨Nat.ne_of_gt (hg ▸ blk_lt (f2 b2.out))⟩ ⟨blk_below (f2 b2.out) hb⟩) hd hgd hrun
end
theorem att207 {w : World} {A : Option Addr} {n : Nat} {xs : List S207} (h : Kd.C k207 w A n xs) (i : Int) (h0 : 0 ≤ i) (h1 : i < n) : ∃ ad , A = some ad ∧ (w.cell? (ad.add (i.toNat * 3)) = some (.int .i64 (rd_T207 xs i).f0) ∧ w.cell? ⟨(ad.add (i.toNat * 3)).block, (ad.add (i.toNat * 3)).off + 1, none⟩ = some (.int .i64 (rd_T207 xs i).f1) ∧ w.cell? ⟨(ad.add (i.toNat * 3)).block, (ad.add (i.toNat * 3)).off + 2, none⟩ = some (.int .i64 (rd_T207 xs i).f2)) := by
  obtain ⟨ad, e, y0, y1, y2⟩ := at_T207 h i h0 h1
  exact ⟨ad, e, ⟨y0, y1, y2⟩⟩
theorem att236 {w : World} {A : Option Addr} {n : Nat} {xs : List S236} (h : Kd.C k236 w A n xs) (i : Int) (h0 : 0 ≤ i) (h1 : i < n) : ∃ ad , A = some ad ∧ (w.cell? (ad.add (i.toNat * 3)) = some (.int .i64 (rd_T236 xs i).f0) ∧ w.cell? ⟨(ad.add (i.toNat * 3)).block, (ad.add (i.toNat * 3)).off + 1, none⟩ = some (.int .i64 (rd_T236 xs i).f1) ∧ w.cell? ⟨(ad.add (i.toNat * 3)).block, (ad.add (i.toNat * 3)).off + 2, none⟩ = some (.int .i64 (rd_T236 xs i).f2)) := by
  obtain ⟨ad, e, y0, y1, y2⟩ := at_T236 h i h0 h1
  exact ⟨ad, e, ⟨y0, y1, y2⟩⟩
theorem att201 {w : World} {A : Option Addr} {n : Nat} {xs : List S201} (h : Kd.C k201 w A n xs) (i : Int) (h0 : 0 ≤ i) (h1 : i < n) : ∃ ad A2 c2 A4 c4, A = some ad ∧ (w.cell? (ad.add (i.toNat * 5)) = some (.int .i64 (rd_T201 xs i).f0) ∧ w.cell? ⟨(ad.add (i.toNat * 5)).block, (ad.add (i.toNat * 5)).off + 1, none⟩ = some (.int .i64 (rd_T201 xs i).f1) ∧ w.cell? ⟨(ad.add (i.toNat * 5)).block, (ad.add (i.toNat * 5)).off + 2, none⟩ = some (.slice A2 (rd_T201 xs i).f2.length c2) ∧ w.cell? ⟨(ad.add (i.toNat * 5)).block, (ad.add (i.toNat * 5)).off + 3, none⟩ = some (.int .i64 (rd_T201 xs i).f3.f0) ∧ w.cell? ⟨(ad.add (i.toNat * 5)).block, (ad.add (i.toNat * 5)).off + 4, none⟩ = some (.slice A4 (rd_T201 xs i).f3.f1.length c4)) ∧ (rd_T201 xs i).f2.length ≤ c2 ∧ k236.C w A2 (rd_T201 xs i).f2.length (rd_T201 xs i).f2 ∧ (rd_T201 xs i).f3.f1.length ≤ c4 ∧ (Kd.int .i64).C w A4 (rd_T201 xs i).f3.f1.length (rd_T201 xs i).f3.f1 := by
  obtain ⟨ad, A2, c2, A4, c4, e, y0, y1, y2, y3, y4, y5, y6, y7, y8⟩ := at_T201 h i h0 h1
  exact ⟨ad, A2, c2, A4, c4, e, ⟨y0, y1, y2, y3, y4⟩, y5, y6, y7, y8⟩
theorem att173 {w : World} {A : Option Addr} {n : Nat} {xs : List S173} (h : Kd.C k173 w A n xs) (i : Int) (h0 : 0 ≤ i) (h1 : i < n) : ∃ ad , A = some ad ∧ (w.cell? (ad.add (i.toNat * 3)) = some (.int .i64 (rd_T173 xs i).f0) ∧ w.cell? ⟨(ad.add (i.toNat * 3)).block, (ad.add (i.toNat * 3)).off + 1, none⟩ = some (.int .i64 (rd_T173 xs i).f1) ∧ w.cell? ⟨(ad.add (i.toNat * 3)).block, (ad.add (i.toNat * 3)).off + 2, none⟩ = some (.int .i64 (rd_T173 xs i).f2)) := by
  obtain ⟨ad, e, y0, y1, y2⟩ := at_T173 h i h0 h1
  exact ⟨ad, e, ⟨y0, y1, y2⟩⟩
theorem att224 {w : World} {A : Option Addr} {n : Nat} {xs : List S224} (h : Kd.C k224 w A n xs) (i : Int) (h0 : 0 ≤ i) (h1 : i < n) : ∃ ad , A = some ad ∧ (w.cell? (ad.add (i.toNat * 2)) = some (.int .i64 (rd_T224 xs i).f0) ∧ w.cell? ⟨(ad.add (i.toNat * 2)).block, (ad.add (i.toNat * 2)).off + 1, none⟩ = some (.int .i64 (rd_T224 xs i).f1)) := by
  obtain ⟨ad, e, y0, y1⟩ := at_T224 h i h0 h1
  exact ⟨ad, e, ⟨y0, y1⟩⟩
theorem att226 {w : World} {A : Option Addr} {n : Nat} {xs : List S226} (h : Kd.C k226 w A n xs) (i : Int) (h0 : 0 ≤ i) (h1 : i < n) : ∃ ad , A = some ad ∧ (w.cell? (ad.add (i.toNat * 4)) = some (.int .i64 (rd_T226 xs i).f0) ∧ w.cell? ⟨(ad.add (i.toNat * 4)).block, (ad.add (i.toNat * 4)).off + 1, none⟩ = some (.int .i64 (rd_T226 xs i).f1) ∧ w.cell? ⟨(ad.add (i.toNat * 4)).block, (ad.add (i.toNat * 4)).off + 2, none⟩ = some (.int .i64 (rd_T226 xs i).f2) ∧ w.cell? ⟨(ad.add (i.toNat * 4)).block, (ad.add (i.toNat * 4)).off + 3, none⟩ = some (.int .i64 (rd_T226 xs i).f3)) := by
  obtain ⟨ad, e, y0, y1, y2, y3⟩ := at_T226 h i h0 h1
  exact ⟨ad, e, ⟨y0, y1, y2, y3⟩⟩
theorem att171 {w : World} {A : Option Addr} {n : Nat} {xs : List S171} (h : Kd.C k171 w A n xs) (i : Int) (h0 : 0 ≤ i) (h1 : i < n) : ∃ ad A0 c0 A3 c3 A4 c4, A = some ad ∧ (w.cell? (ad.add (i.toNat * 5)) = some (.slice A0 (rd_T171 xs i).f0.length c0) ∧ w.cell? ⟨(ad.add (i.toNat * 5)).block, (ad.add (i.toNat * 5)).off + 1, none⟩ = some (.int .i64 (rd_T171 xs i).f1) ∧ w.cell? ⟨(ad.add (i.toNat * 5)).block, (ad.add (i.toNat * 5)).off + 2, none⟩ = some (.bool (rd_T171 xs i).f2) ∧ w.cell? ⟨(ad.add (i.toNat * 5)).block, (ad.add (i.toNat * 5)).off + 3, none⟩ = some (.slice A3 (rd_T171 xs i).f3.length c3) ∧ w.cell? ⟨(ad.add (i.toNat * 5)).block, (ad.add (i.toNat * 5)).off + 4, none⟩ = some (.slice A4 (rd_T171 xs i).f4.length c4)) ∧ (rd_T171 xs i).f0.length ≤ c0 ∧ k173.C w A0 (rd_T171 xs i).f0.length (rd_T171 xs i).f0 ∧ (rd_T171 xs i).f3.length ≤ c3 ∧ k224.C w A3 (rd_T171 xs i).f3.length (rd_T171 xs i).f3 ∧ (rd_T171 xs i).f4.length ≤ c4 ∧ k226.C w A4 (rd_T171 xs i).f4.length (rd_T171 xs i).f4 := by
  obtain ⟨ad, A0, c0, A3, c3, A4, c4, e, y0, y1, y2, y3, y4, y5, y6, y7, y8, y9, y10⟩ := at_T171 h i h0 h1
  exact ⟨ad, A0, c0, A3, c3, A4, c4, e, ⟨y0, y1, y2, y3, y4⟩, y5, y6, y7, y8, y9, y10⟩
theorem att176 {w : World} {A : Option Addr} {n : Nat} {xs : List S176} (h : Kd.C k176 w A n xs) (i : Int) (h0 : 0 ≤ i) (h1 : i < n) : ∃ ad A8 c8, A = some ad ∧ (w.cell? (ad.add (i.toNat * 9)) = some (.int .i64 (rd_T176 xs i).f0) ∧ w.cell? ⟨(ad.add (i.toNat * 9)).block, (ad.add (i.toNat * 9)).off + 1, none⟩ = some (.int .i64 (rd_T176 xs i).f1.f0) ∧ w.cell? ⟨(ad.add (i.toNat * 9)).block, (ad.add (i.toNat * 9)).off + 2, none⟩ = some (.int .i64 (rd_T176 xs i).f1.f1) ∧ w.cell? ⟨(ad.add (i.toNat * 9)).block, (ad.add (i.toNat * 9)).off + 3, none⟩ = some (.int .i64 (rd_T176 xs i).f1.f2) ∧ w.cell? ⟨(ad.add (i.toNat * 9)).block, (ad.add (i.toNat * 9)).off + 4, none⟩ = some (.int .i64 (rd_T176 xs i).f2) ∧ w.cell? ⟨(ad.add (i.toNat * 9)).block, (ad.add (i.toNat * 9)).off + 5, none⟩ = some (.int .i64 (rd_T176 xs i).f3) ∧ w.cell? ⟨(ad.add (i.toNat * 9)).block, (ad.add (i.toNat * 9)).off + 6, none⟩ = some (.int .i64 (rd_T176 xs i).f4) ∧ w.cell? ⟨(ad.add (i.toNat * 9)).block, (ad.add (i.toNat * 9)).off + 7, none⟩ = some (.int .i64 (rd_T176 xs i).f5.f0) ∧ w.cell? ⟨(ad.add (i.toNat * 9)).block, (ad.add (i.toNat * 9)).off + 8, none⟩ = some (.slice A8 (rd_T176 xs i).f5.f1.length c8)) ∧ (rd_T176 xs i).f5.f1.length ≤ c8 ∧ (Kd.int .i64).C w A8 (rd_T176 xs i).f5.f1.length (rd_T176 xs i).f5.f1 := by
  obtain ⟨ad, A8, c8, e, y0, y1, y2, y3, y4, y5, y6, y7, y8, y9, y10⟩ := at_T176 h i h0 h1
  exact ⟨ad, A8, c8, e, ⟨y0, y1, y2, y3, y4, y5, y6, y7, y8⟩, y9, y10⟩
abbrev eT132 (p : Addr) (x : S132) (w : World) : Prop := w.cell? p = some (.int .i64 x.f0) ∧ w.cell? ⟨p.block, p.off + 1, none⟩ = some (.int .i64 x.f1) ∧ w.cell? ⟨p.block, p.off + 2, none⟩ = some (.int .i64 x.f2)
theorem att132 {w : World} {A : Option Addr} {n : Nat} {xs : List S132} (h : Kd.C k132 w A n xs) (i : Int) (h0 : 0 ≤ i) (h1 : i < n) : ∃ ad , A = some ad ∧ (w.cell? (ad.add (i.toNat * 3)) = some (.int .i64 (rd_T132 xs i).f0) ∧ w.cell? ⟨(ad.add (i.toNat * 3)).block, (ad.add (i.toNat * 3)).off + 1, none⟩ = some (.int .i64 (rd_T132 xs i).f1) ∧ w.cell? ⟨(ad.add (i.toNat * 3)).block, (ad.add (i.toNat * 3)).off + 2, none⟩ = some (.int .i64 (rd_T132 xs i).f2)) := by
  obtain ⟨ad, e, y0, y1, y2⟩ := at_T132 h i h0 h1
  exact ⟨ad, e, ⟨y0, y1, y2⟩⟩
abbrev eT145 (p : Addr) (x : S145) (w : World) : Prop := w.cell? p = some (.int .i64 x.f0) ∧ w.cell? ⟨p.block, p.off + 1, none⟩ = some (.int .i64 x.f1)
theorem att145 {w : World} {A : Option Addr} {n : Nat} {xs : List S145} (h : Kd.C k145 w A n xs) (i : Int) (h0 : 0 ≤ i) (h1 : i < n) : ∃ ad , A = some ad ∧ (w.cell? (ad.add (i.toNat * 2)) = some (.int .i64 (rd_T145 xs i).f0) ∧ w.cell? ⟨(ad.add (i.toNat * 2)).block, (ad.add (i.toNat * 2)).off + 1, none⟩ = some (.int .i64 (rd_T145 xs i).f1)) := by
  obtain ⟨ad, e, y0, y1⟩ := at_T145 h i h0 h1
  exact ⟨ad, e, ⟨y0, y1⟩⟩
abbrev eT42 (p : Addr) (x : S42) (w : World) : Prop := w.cell? p = some (.int .i64 x.f0) ∧ w.cell? ⟨p.block, p.off + 1, none⟩ = some (.int .i64 x.f1) ∧ w.cell? ⟨p.block, p.off + 2, none⟩ = some (.int .i64 x.f2) ∧ w.cell? ⟨p.block, p.off + 3, none⟩ = some (.int .i64 x.f3)
theorem att42 {w : World} {A : Option Addr} {n : Nat} {xs : List S42} (h : Kd.C k42 w A n xs) (i : Int) (h0 : 0 ≤ i) (h1 : i < n) : ∃ ad , A = some ad ∧ (w.cell? (ad.add (i.toNat * 4)) = some (.int .i64 (rd_T42 xs i).f0) ∧ w.cell? ⟨(ad.add (i.toNat * 4)).block, (ad.add (i.toNat * 4)).off + 1, none⟩ = some (.int .i64 (rd_T42 xs i).f1) ∧ w.cell? ⟨(ad.add (i.toNat * 4)).block, (ad.add (i.toNat * 4)).off + 2, none⟩ = some (.int .i64 (rd_T42 xs i).f2) ∧ w.cell? ⟨(ad.add (i.toNat * 4)).block, (ad.add (i.toNat * 4)).off + 3, none⟩ = some (.int .i64 (rd_T42 xs i).f3)) := by
  obtain ⟨ad, e, y0, y1, y2, y3⟩ := at_T42 h i h0 h1
  exact ⟨ad, e, ⟨y0, y1, y2, y3⟩⟩
abbrev eT37 (p : Addr) (x : S37) (w : World) : Prop := w.cell? p = some (.int .i64 x.f0) ∧ w.cell? ⟨p.block, p.off + 1, none⟩ = some (.int .i64 x.f1) ∧ w.cell? ⟨p.block, p.off + 2, none⟩ = some (.int .i64 x.f2)
theorem att37 {w : World} {A : Option Addr} {n : Nat} {xs : List S37} (h : Kd.C k37 w A n xs) (i : Int) (h0 : 0 ≤ i) (h1 : i < n) : ∃ ad , A = some ad ∧ (w.cell? (ad.add (i.toNat * 3)) = some (.int .i64 (rd_T37 xs i).f0) ∧ w.cell? ⟨(ad.add (i.toNat * 3)).block, (ad.add (i.toNat * 3)).off + 1, none⟩ = some (.int .i64 (rd_T37 xs i).f1) ∧ w.cell? ⟨(ad.add (i.toNat * 3)).block, (ad.add (i.toNat * 3)).off + 2, none⟩ = some (.int .i64 (rd_T37 xs i).f2)) := by
  obtain ⟨ad, e, y0, y1, y2⟩ := at_T37 h i h0 h1
  exact ⟨ad, e, ⟨y0, y1, y2⟩⟩
abbrev eT52 (p : Addr) (x : S52) (A2 : Option Addr) (c2 : Nat) (A4 : Option Addr) (c4 : Nat) (w : World) : Prop := w.cell? p = some (.int .i64 x.f0) ∧ w.cell? ⟨p.block, p.off + 1, none⟩ = some (.int .i64 x.f1) ∧ w.cell? ⟨p.block, p.off + 2, none⟩ = some (.slice A2 x.f2.length c2) ∧ w.cell? ⟨p.block, p.off + 3, none⟩ = some (.int .i64 x.f3.f0) ∧ w.cell? ⟨p.block, p.off + 4, none⟩ = some (.slice A4 x.f3.f1.length c4)
theorem att52 {w : World} {A : Option Addr} {n : Nat} {xs : List S52} (h : Kd.C k52 w A n xs) (i : Int) (h0 : 0 ≤ i) (h1 : i < n) : ∃ ad A2 c2 A4 c4, A = some ad ∧ (w.cell? (ad.add (i.toNat * 5)) = some (.int .i64 (rd_T52 xs i).f0) ∧ w.cell? ⟨(ad.add (i.toNat * 5)).block, (ad.add (i.toNat * 5)).off + 1, none⟩ = some (.int .i64 (rd_T52 xs i).f1) ∧ w.cell? ⟨(ad.add (i.toNat * 5)).block, (ad.add (i.toNat * 5)).off + 2, none⟩ = some (.slice A2 (rd_T52 xs i).f2.length c2) ∧ w.cell? ⟨(ad.add (i.toNat * 5)).block, (ad.add (i.toNat * 5)).off + 3, none⟩ = some (.int .i64 (rd_T52 xs i).f3.f0) ∧ w.cell? ⟨(ad.add (i.toNat * 5)).block, (ad.add (i.toNat * 5)).off + 4, none⟩ = some (.slice A4 (rd_T52 xs i).f3.f1.length c4)) ∧ (rd_T52 xs i).f2.length ≤ c2 ∧ k37.C w A2 (rd_T52 xs i).f2.length (rd_T52 xs i).f2 ∧ (rd_T52 xs i).f3.f1.length ≤ c4 ∧ (Kd.int .i64).C w A4 (rd_T52 xs i).f3.f1.length (rd_T52 xs i).f3.f1 := by
  obtain ⟨ad, A2, c2, A4, c4, e, y0, y1, y2, y3, y4, y5, y6, y7, y8⟩ := at_T52 h i h0 h1
  exact ⟨ad, A2, c2, A4, c4, e, ⟨y0, y1, y2, y3, y4⟩, y5, y6, y7, y8⟩
abbrev eT39 (p : Addr) (x : S39) (w : World) : Prop := w.cell? p = some (.int .i64 x.f0) ∧ w.cell? ⟨p.block, p.off + 1, none⟩ = some (.int .i64 x.f1) ∧ w.cell? ⟨p.block, p.off + 2, none⟩ = some (.int .i64 x.f2)
theorem att39 {w : World} {A : Option Addr} {n : Nat} {xs : List S39} (h : Kd.C k39 w A n xs) (i : Int) (h0 : 0 ≤ i) (h1 : i < n) : ∃ ad , A = some ad ∧ (w.cell? (ad.add (i.toNat * 3)) = some (.int .i64 (rd_T39 xs i).f0) ∧ w.cell? ⟨(ad.add (i.toNat * 3)).block, (ad.add (i.toNat * 3)).off + 1, none⟩ = some (.int .i64 (rd_T39 xs i).f1) ∧ w.cell? ⟨(ad.add (i.toNat * 3)).block, (ad.add (i.toNat * 3)).off + 2, none⟩ = some (.int .i64 (rd_T39 xs i).f2)) := by
  obtain ⟨ad, e, y0, y1, y2⟩ := at_T39 h i h0 h1
  exact ⟨ad, e, ⟨y0, y1, y2⟩⟩
abbrev eT82 (p : Addr) (x : S82) (A0 : Option Addr) (c0 : Nat) (A3 : Option Addr) (c3 : Nat) (A4 : Option Addr) (c4 : Nat) (w : World) : Prop := w.cell? p = some (.slice A0 x.f0.length c0) ∧ w.cell? ⟨p.block, p.off + 1, none⟩ = some (.int .i64 x.f1) ∧ w.cell? ⟨p.block, p.off + 2, none⟩ = some (.bool x.f2) ∧ w.cell? ⟨p.block, p.off + 3, none⟩ = some (.slice A3 x.f3.length c3) ∧ w.cell? ⟨p.block, p.off + 4, none⟩ = some (.slice A4 x.f4.length c4)
theorem att82 {w : World} {A : Option Addr} {n : Nat} {xs : List S82} (h : Kd.C k82 w A n xs) (i : Int) (h0 : 0 ≤ i) (h1 : i < n) : ∃ ad A0 c0 A3 c3 A4 c4, A = some ad ∧ (w.cell? (ad.add (i.toNat * 5)) = some (.slice A0 (rd_T82 xs i).f0.length c0) ∧ w.cell? ⟨(ad.add (i.toNat * 5)).block, (ad.add (i.toNat * 5)).off + 1, none⟩ = some (.int .i64 (rd_T82 xs i).f1) ∧ w.cell? ⟨(ad.add (i.toNat * 5)).block, (ad.add (i.toNat * 5)).off + 2, none⟩ = some (.bool (rd_T82 xs i).f2) ∧ w.cell? ⟨(ad.add (i.toNat * 5)).block, (ad.add (i.toNat * 5)).off + 3, none⟩ = some (.slice A3 (rd_T82 xs i).f3.length c3) ∧ w.cell? ⟨(ad.add (i.toNat * 5)).block, (ad.add (i.toNat * 5)).off + 4, none⟩ = some (.slice A4 (rd_T82 xs i).f4.length c4)) ∧ (rd_T82 xs i).f0.length ≤ c0 ∧ k132.C w A0 (rd_T82 xs i).f0.length (rd_T82 xs i).f0 ∧ (rd_T82 xs i).f3.length ≤ c3 ∧ k145.C w A3 (rd_T82 xs i).f3.length (rd_T82 xs i).f3 ∧ (rd_T82 xs i).f4.length ≤ c4 ∧ k42.C w A4 (rd_T82 xs i).f4.length (rd_T82 xs i).f4 := by
  obtain ⟨ad, A0, c0, A3, c3, A4, c4, e, y0, y1, y2, y3, y4, y5, y6, y7, y8, y9, y10⟩ := at_T82 h i h0 h1
  exact ⟨ad, A0, c0, A3, c3, A4, c4, e, ⟨y0, y1, y2, y3, y4⟩, y5, y6, y7, y8, y9, y10⟩
abbrev eT134 (p : Addr) (x : S134) (A8 : Option Addr) (c8 : Nat) (w : World) : Prop := w.cell? p = some (.int .i64 x.f0) ∧ w.cell? ⟨p.block, p.off + 1, none⟩ = some (.int .i64 x.f1.f0) ∧ w.cell? ⟨p.block, p.off + 2, none⟩ = some (.int .i64 x.f1.f1) ∧ w.cell? ⟨p.block, p.off + 3, none⟩ = some (.int .i64 x.f1.f2) ∧ w.cell? ⟨p.block, p.off + 4, none⟩ = some (.int .i64 x.f2) ∧ w.cell? ⟨p.block, p.off + 5, none⟩ = some (.int .i64 x.f3) ∧ w.cell? ⟨p.block, p.off + 6, none⟩ = some (.int .i64 x.f4) ∧ w.cell? ⟨p.block, p.off + 7, none⟩ = some (.int .i64 x.f5.f0) ∧ w.cell? ⟨p.block, p.off + 8, none⟩ = some (.slice A8 x.f5.f1.length c8)
theorem att134 {w : World} {A : Option Addr} {n : Nat} {xs : List S134} (h : Kd.C k134 w A n xs) (i : Int) (h0 : 0 ≤ i) (h1 : i < n) : ∃ ad A8 c8, A = some ad ∧ (w.cell? (ad.add (i.toNat * 9)) = some (.int .i64 (rd_T134 xs i).f0) ∧ w.cell? ⟨(ad.add (i.toNat * 9)).block, (ad.add (i.toNat * 9)).off + 1, none⟩ = some (.int .i64 (rd_T134 xs i).f1.f0) ∧ w.cell? ⟨(ad.add (i.toNat * 9)).block, (ad.add (i.toNat * 9)).off + 2, none⟩ = some (.int .i64 (rd_T134 xs i).f1.f1) ∧ w.cell? ⟨(ad.add (i.toNat * 9)).block, (ad.add (i.toNat * 9)).off + 3, none⟩ = some (.int .i64 (rd_T134 xs i).f1.f2) ∧ w.cell? ⟨(ad.add (i.toNat * 9)).block, (ad.add (i.toNat * 9)).off + 4, none⟩ = some (.int .i64 (rd_T134 xs i).f2) ∧ w.cell? ⟨(ad.add (i.toNat * 9)).block, (ad.add (i.toNat * 9)).off + 5, none⟩ = some (.int .i64 (rd_T134 xs i).f3) ∧ w.cell? ⟨(ad.add (i.toNat * 9)).block, (ad.add (i.toNat * 9)).off + 6, none⟩ = some (.int .i64 (rd_T134 xs i).f4) ∧ w.cell? ⟨(ad.add (i.toNat * 9)).block, (ad.add (i.toNat * 9)).off + 7, none⟩ = some (.int .i64 (rd_T134 xs i).f5.f0) ∧ w.cell? ⟨(ad.add (i.toNat * 9)).block, (ad.add (i.toNat * 9)).off + 8, none⟩ = some (.slice A8 (rd_T134 xs i).f5.f1.length c8)) ∧ (rd_T134 xs i).f5.f1.length ≤ c8 ∧ (Kd.int .i64).C w A8 (rd_T134 xs i).f5.f1.length (rd_T134 xs i).f5.f1 := by
  obtain ⟨ad, A8, c8, e, y0, y1, y2, y3, y4, y5, y6, y7, y8, y9, y10⟩ := at_T134 h i h0 h1
  exact ⟨ad, A8, c8, e, ⟨y0, y1, y2, y3, y4, y5, y6, y7, y8⟩, y9, y10⟩
end Go.Proofs.YtopikhjcbcpiaaaGreat.Q
end
