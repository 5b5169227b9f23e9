/- Part 2 of the steps by which the law is shown: what each function of the program, of the reference and of the law computes. No condition. -/
import Derived.Test.YtopikhjcbcpiaaaProg
import Derived.Below
import Derived.Deep.Draws
import Derived.Deep.AppendLies
import Derived.Maps.AppendAt
import Derived.OwnWalk
import Derived.Laws.BytesArg
import Derived.Laws.MakeOwn
import Derived.Laws.OwnMore
import Derived.Deep.OwnRows
import Derived.Tactics
import Derived.Lib.ConvBytes
import Derived.Laws.Slices
import Derived.WalkKit
import Derived.KernelRfl
import Derived.RowKit3
import Derived.Deep.LoopGhost
import Derived.Deep.QuietTactic
import Derived.BigQuiet
import Derived.WideLaws
import Derived.Deep.DeepCutAuto
import Derived.Deep.CutBlock
import Derived.Deep.RegionHeld3
import Derived.Laws.Rows
import Derived.Lib.AppendStr
import Derived.ArgAppend
import Derived.Laws.IdiomCopy
import Derived.OrdersHeld
import Derived.Laws.BitsLemmas
import Derived.RowKit
import Derived.Test.YtopikhjcbcpiaaaBgn0
import Derived.Test.YtopikhjcbcpiaaaBgn1
section
namespace Go.Proofs.Ytopikhjcbcpiaaa.Q
open Go.RowKit Go.Proofs.YtopikhjcbcpiaaaW.PrintWords Go.Proofs.YtopikhjcbcpiaaaW.PrintLast Go.Proofs.YtopikhjcbcpiaaaW.PrintMore
attribute [local go_sem] max2_int min2_int max_two min_two max_three min_three max_four min_four   -- for this text's walks alone
set_option linter.unusedVariables false
set_option linter.unusedSimpArgs false
def errW : Option Int → Value
  | none => .nilIface
  | some c => .iface 0 (.int .i64 c)
theorem errW_none : errW none = .nilIface := rfl
theorem errW_some (c : Int) : errW (some c) = .iface 0 (.int .i64 c) := rfl
theorem info3 : (Try.prog.info? 3).map (fun i => (i.zero, i.size, i.bytes)) = some (some (.int .i64 0), 1, 8) := by kernel_rfl
theorem info141 : (Try.prog.info? 141).map (fun i => (i.zero, i.size, i.bytes)) = some (some (.agg #[(.int .i64 0), (.int .i64 0), (.int .i64 0)]), 3, 24) := by kernel_rfl
theorem info145 : (Try.prog.info? 145).map (fun i => (i.zero, i.size, i.bytes)) = some (some (.agg #[(.int .i64 0), (.int .i64 0), (.slice none 0 0), (.int .i64 0), (.slice none 0 0)]), 5, 72) := by kernel_rfl
theorem info166 : (Try.prog.info? 166).map (fun i => (i.zero, i.size, i.bytes)) = some (some (.agg #[(.int .i64 0), (.int .i64 0), (.int .i64 0)]), 3, 24) := by kernel_rfl
structure S68 where
  f0 : Int
  f1 : Int
  f2 : Int
def z68 : S68 := ⟨(0 : Int), (0 : Int), (0 : Int)⟩
def k68 : Kd S68 := Kd.iso (Kd.pair (Kd.int .i64) (Kd.pair (Kd.int .i64) (Kd.int .i64))) (fun x : S68 => (x.f0, x.f1, x.f2))
theorem k68_open {w : World} {x : S68} {cs : List Value} (h : k68.K w x cs) : cs = [.int .i64 x.f0, .int .i64 x.f1, .int .i64 x.f2] := by
  obtain ⟨_, _, rfl, rfl, ⟨_, _, rfl, rfl, rfl⟩⟩ := h
  exact rfl
def rd_T68 (xs : List S68) (i : Int) : S68 := xs.getD i.toNat z68
theorem at_T68 {w : World} {A : Option Addr} {n : Nat} {xs : List S68} (h : Kd.C k68 w A n xs) (i : Int) (h0 : 0 ≤ i) (h1 : i < n) : ∃ ad , A = some ad ∧ w.cell? (ad.add (i.toNat * 3)) = some (.int .i64 (rd_T68 xs i).f0) ∧ w.cell? ⟨(ad.add (i.toNat * 3)).block, (ad.add (i.toNat * 3)).off + 1, none⟩ = some (.int .i64 (rd_T68 xs i).f1) ∧ w.cell? ⟨(ad.add (i.toNat * 3)).block, (ad.add (i.toNat * 3)).off + 2, none⟩ = some (.int .i64 (rd_T68 xs i).f2) := by
  obtain ⟨ad, c, e, _, hK, hc0⟩ := Kd.C_get h z68 i h0 h1
  have hc : ∀ j u, c[j]? = some u → w.cell? (ad.add (i.toNat * 3 + j)) = some u := hc0
  obtain rfl := k68_open hK
  exact ⟨ad, e, hc 0 _ rfl, by rw [← add_field _ _ 1 (by omega)]; exact hc 1 _ rfl, by rw [← add_field _ _ 2 (by omega)]; exact hc 2 _ rfl⟩
structure S123 where
  f0 : Int
  f1 : Int
def z123 : S123 := ⟨(0 : Int), (0 : Int)⟩
def k123 : Kd S123 := Kd.iso (Kd.pair (Kd.int .i64) (Kd.int .i64)) (fun x : S123 => (x.f0, x.f1))
theorem k123_open {w : World} {x : S123} {cs : List Value} (h : k123.K w x cs) : cs = [.int .i64 x.f0, .int .i64 x.f1] := by
  obtain ⟨_, _, rfl, rfl, rfl⟩ := h
  exact rfl
def rd_T123 (xs : List S123) (i : Int) : S123 := xs.getD i.toNat z123
theorem at_T123 {w : World} {A : Option Addr} {n : Nat} {xs : List S123} (h : Kd.C k123 w A n xs) (i : Int) (h0 : 0 ≤ i) (h1 : i < n) : ∃ ad , A = some ad ∧ w.cell? (ad.add (i.toNat * 2)) = some (.int .i64 (rd_T123 xs i).f0) ∧ w.cell? ⟨(ad.add (i.toNat * 2)).block, (ad.add (i.toNat * 2)).off + 1, none⟩ = some (.int .i64 (rd_T123 xs i).f1) := by
  obtain ⟨ad, c, e, _, hK, hc0⟩ := Kd.C_get h z123 i h0 h1
  have hc : ∀ j u, c[j]? = some u → w.cell? (ad.add (i.toNat * 2 + j)) = some u := hc0
  obtain rfl := k123_open hK
  exact ⟨ad, e, hc 0 _ rfl, by rw [← add_field _ _ 1 (by omega)]; exact hc 1 _ rfl⟩
structure S100 where
  f0 : Int
  f1 : Int
  f2 : Int
  f3 : Int
def z100 : S100 := ⟨(0 : Int), (0 : Int), (0 : Int), (0 : Int)⟩
def k100 : Kd S100 := Kd.iso (Kd.pair (Kd.int .i64) (Kd.pair (Kd.int .i64) (Kd.pair (Kd.int .i64) (Kd.int .i64)))) (fun x : S100 => (x.f0, x.f1, x.f2, x.f3))
theorem k100_open {w : World} {x : S100} {cs : List Value} (h : k100.K w x cs) : cs = [.int .i64 x.f0, .int .i64 x.f1, .int .i64 x.f2, .int .i64 x.f3] := by
  obtain ⟨_, _, rfl, rfl, ⟨_, _, rfl, rfl, ⟨_, _, rfl, rfl, rfl⟩⟩⟩ := h
  exact rfl
def rd_T100 (xs : List S100) (i : Int) : S100 := xs.getD i.toNat z100
theorem at_T100 {w : World} {A : Option Addr} {n : Nat} {xs : List S100} (h : Kd.C k100 w A n xs) (i : Int) (h0 : 0 ≤ i) (h1 : i < n) : ∃ ad , A = some ad ∧ w.cell? (ad.add (i.toNat * 4)) = some (.int .i64 (rd_T100 xs i).f0) ∧ w.cell? ⟨(ad.add (i.toNat * 4)).block, (ad.add (i.toNat * 4)).off + 1, none⟩ = some (.int .i64 (rd_T100 xs i).f1) ∧ w.cell? ⟨(ad.add (i.toNat * 4)).block, (ad.add (i.toNat * 4)).off + 2, none⟩ = some (.int .i64 (rd_T100 xs i).f2) ∧ w.cell? ⟨(ad.add (i.toNat * 4)).block, (ad.add (i.toNat * 4)).off + 3, none⟩ = some (.int .i64 (rd_T100 xs i).f3) := by
  obtain ⟨ad, c, e, _, hK, hc0⟩ := Kd.C_get h z100 i h0 h1
  have hc : ∀ j u, c[j]? = some u → w.cell? (ad.add (i.toNat * 4 + j)) = some u := hc0
  obtain rfl := k100_open hK
  exact ⟨ad, e, hc 0 _ rfl, by rw [← add_field _ _ 1 (by omega)]; exact hc 1 _ rfl, by rw [← add_field _ _ 2 (by omega)]; exact hc 2 _ rfl, by rw [← add_field _ _ 3 (by omega)]; exact hc 3 _ rfl⟩
structure S143 where
  f0 : Int
  f1 : Int
  f2 : Int
def z143 : S143 := ⟨(0 : Int), (0 : Int), (0 : Int)⟩
def k143 : Kd S143 := Kd.iso (Kd.pair (Kd.int .i64) (Kd.pair (Kd.int .i64) (Kd.int .i64))) (fun x : S143 => (x.f0, x.f1, x.f2))
theorem k143_open {w : World} {x : S143} {cs : List Value} (h : k143.K w x cs) : cs = [.int .i64 x.f0, .int .i64 x.f1, .int .i64 x.f2] := by
  obtain ⟨_, _, rfl, rfl, ⟨_, _, rfl, rfl, rfl⟩⟩ := h
  exact rfl
def rd_T143 (xs : List S143) (i : Int) : S143 := xs.getD i.toNat z143
theorem at_T143 {w : World} {A : Option Addr} {n : Nat} {xs : List S143} (h : Kd.C k143 w A n xs) (i : Int) (h0 : 0 ≤ i) (h1 : i < n) : ∃ ad , A = some ad ∧ w.cell? (ad.add (i.toNat * 3)) = some (.int .i64 (rd_T143 xs i).f0) ∧ w.cell? ⟨(ad.add (i.toNat * 3)).block, (ad.add (i.toNat * 3)).off + 1, none⟩ = some (.int .i64 (rd_T143 xs i).f1) ∧ w.cell? ⟨(ad.add (i.toNat * 3)).block, (ad.add (i.toNat * 3)).off + 2, none⟩ = some (.int .i64 (rd_T143 xs i).f2) := by
  obtain ⟨ad, c, e, _, hK, hc0⟩ := Kd.C_get h z143 i h0 h1
  have hc : ∀ j u, c[j]? = some u → w.cell? (ad.add (i.toNat * 3 + j)) = some u := hc0
  obtain rfl := k143_open hK
  exact ⟨ad, e, hc 0 _ rfl, by rw [← add_field _ _ 1 (by omega)]; exact hc 1 _ rfl, by rw [← add_field _ _ 2 (by omega)]; exact hc 2 _ rfl⟩
structure S168 where
  f0 : Int
  f1 : Int
  f2 : Int
def z168 : S168 := ⟨(0 : Int), (0 : Int), (0 : Int)⟩
def k168 : Kd S168 := Kd.iso (Kd.pair (Kd.int .i64) (Kd.pair (Kd.int .i64) (Kd.int .i64))) (fun x : S168 => (x.f0, x.f1, x.f2))
theorem k168_open {w : World} {x : S168} {cs : List Value} (h : k168.K w x cs) : cs = [.int .i64 x.f0, .int .i64 x.f1, .int .i64 x.f2] := by
  obtain ⟨_, _, rfl, rfl, ⟨_, _, rfl, rfl, rfl⟩⟩ := h
  exact rfl
def rd_T168 (xs : List S168) (i : Int) : S168 := xs.getD i.toNat z168
theorem at_T168 {w : World} {A : Option Addr} {n : Nat} {xs : List S168} (h : Kd.C k168 w A n xs) (i : Int) (h0 : 0 ≤ i) (h1 : i < n) : ∃ ad , A = some ad ∧ w.cell? (ad.add (i.toNat * 3)) = some (.int .i64 (rd_T168 xs i).f0) ∧ w.cell? ⟨(ad.add (i.toNat * 3)).block, (ad.add (i.toNat * 3)).off + 1, none⟩ = some (.int .i64 (rd_T168 xs i).f1) ∧ w.cell? ⟨(ad.add (i.toNat * 3)).block, (ad.add (i.toNat * 3)).off + 2, none⟩ = some (.int .i64 (rd_T168 xs i).f2) := by
  obtain ⟨ad, c, e, _, hK, hc0⟩ := Kd.C_get h z168 i h0 h1
  have hc : ∀ j u, c[j]? = some u → w.cell? (ad.add (i.toNat * 3 + j)) = some u := hc0
  obtain rfl := k168_open hK
  exact ⟨ad, e, hc 0 _ rfl, by rw [← add_field _ _ 1 (by omega)]; exact hc 1 _ rfl, by rw [← add_field _ _ 2 (by omega)]; exact hc 2 _ rfl⟩
structure S62 where
  f0 : Int
  f1 : (List Int)
def z62 : S62 := ⟨(0 : Int), ([] : List Int)⟩
def k62 : Kd S62 := Kd.iso (Kd.pair (Kd.int .i64) (Kd.slice 3 (Kd.int .i64))) (fun x : S62 => (x.f0, x.f1))
theorem k62_open {w : World} {x : S62} {cs : List Value} (h : k62.K w x cs) : ∃ A1 c1, cs = [.int .i64 x.f0, .slice A1 x.f1.length c1] ∧ x.f1.length ≤ c1 ∧ (Kd.int .i64).C w A1 x.f1.length x.f1 := by
  obtain ⟨_, _, rfl, rfl, ⟨A1, c1, rfl, l1, g1⟩⟩ := h
  exact ⟨A1, c1, rfl, l1, g1⟩
structure S138 where
  f0 : Int
  f1 : Int
  f2 : (List S168)
  f3 : S62
def z138 : S138 := ⟨(0 : Int), (0 : Int), ([] : List S168), z62⟩
def k138 : Kd S138 := Kd.iso (Kd.pair (Kd.int .i64) (Kd.pair (Kd.int .i64) (Kd.pair (Kd.slice 168 k168) k62))) (fun x : S138 => (x.f0, x.f1, x.f2, x.f3))
theorem k138_open {w : World} {x : S138} {cs : List Value} (h : k138.K w x cs) : ∃ A2 c2 A4 c4, cs = [.int .i64 x.f0, .int .i64 x.f1, .slice A2 x.f2.length c2, .int .i64 x.f3.f0, .slice A4 x.f3.f1.length c4] ∧ x.f2.length ≤ c2 ∧ k168.C w A2 x.f2.length x.f2 ∧ x.f3.f1.length ≤ c4 ∧ (Kd.int .i64).C w A4 x.f3.f1.length x.f3.f1 := by
  obtain ⟨_, _, rfl, rfl, ⟨_, _, rfl, rfl, ⟨_, _, rfl, ⟨A2, c2, rfl, l2, g2⟩, s3⟩⟩⟩ := h
  obtain ⟨A4, c4, rfl, l4, g4⟩ := k62_open s3
  exact ⟨A2, c2, A4, c4, rfl, l2, g2, l4, g4⟩
def rd_T138 (xs : List S138) (i : Int) : S138 := xs.getD i.toNat z138
theorem at_T138 {w : World} {A : Option Addr} {n : Nat} {xs : List S138} (h : Kd.C k138 w A n xs) (i : Int) (h0 : 0 ≤ i) (h1 : i < n) : ∃ ad A2 c2 A4 c4, A = some ad ∧ w.cell? (ad.add (i.toNat * 5)) = some (.int .i64 (rd_T138 xs i).f0) ∧ w.cell? ⟨(ad.add (i.toNat * 5)).block, (ad.add (i.toNat * 5)).off + 1, none⟩ = some (.int .i64 (rd_T138 xs i).f1) ∧ w.cell? ⟨(ad.add (i.toNat * 5)).block, (ad.add (i.toNat * 5)).off + 2, none⟩ = some (.slice A2 (rd_T138 xs i).f2.length c2) ∧ w.cell? ⟨(ad.add (i.toNat * 5)).block, (ad.add (i.toNat * 5)).off + 3, none⟩ = some (.int .i64 (rd_T138 xs i).f3.f0) ∧ w.cell? ⟨(ad.add (i.toNat * 5)).block, (ad.add (i.toNat * 5)).off + 4, none⟩ = some (.slice A4 (rd_T138 xs i).f3.f1.length c4) ∧ (rd_T138 xs i).f2.length ≤ c2 ∧ k168.C w A2 (rd_T138 xs i).f2.length (rd_T138 xs i).f2 ∧ (rd_T138 xs i).f3.f1.length ≤ c4 ∧ (Kd.int .i64).C w A4 (rd_T138 xs i).f3.f1.length (rd_T138 xs i).f3.f1 := by
  obtain ⟨ad, c, e, _, hK, hc0⟩ := Kd.C_get h z138 i h0 h1
  have hc : ∀ j u, c[j]? = some u → w.cell? (ad.add (i.toNat * 5 + j)) = some u := hc0
  obtain ⟨A2, c2, A4, c4, rfl, l2, g2, l4, g4⟩ := k138_open hK
  exact ⟨ad, A2, c2, A4, c4, e, hc 0 _ rfl, by rw [← add_field _ _ 1 (by omega)]; exact hc 1 _ rfl, by rw [← add_field _ _ 2 (by omega)]; exact hc 2 _ rfl, by rw [← add_field _ _ 3 (by omega)]; exact hc 3 _ rfl, by rw [← add_field _ _ 4 (by omega)]; exact hc 4 _ rfl, l2, g2, l4, g4⟩
structure S166 where
  f0 : Int
  f1 : Int
  f2 : Int
def z166 : S166 := ⟨(0 : Int), (0 : Int), (0 : Int)⟩
def k166 : Kd S166 := Kd.iso (Kd.pair (Kd.int .i64) (Kd.pair (Kd.int .i64) (Kd.int .i64))) (fun x : S166 => (x.f0, x.f1, x.f2))
theorem k166_open {w : World} {x : S166} {cs : List Value} (h : k166.K w x cs) : cs = [.int .i64 x.f0, .int .i64 x.f1, .int .i64 x.f2] := by
  obtain ⟨_, _, rfl, rfl, ⟨_, _, rfl, rfl, rfl⟩⟩ := h
  exact rfl
theorem k166_openM {w : World} {base : Nat} {ok : Nat → Prop} {x : S166} {cs : List Value} (h : k166.M w base ok x cs) : cs = [.int .i64 x.f0, .int .i64 x.f1, .int .i64 x.f2] := by
  obtain ⟨_, _, rfl, rfl, ⟨_, _, rfl, rfl, rfl⟩⟩ := h
  exact rfl
theorem k166_mkM (w : World) (base : Nat) (ok : Nat → Prop) (x : S166)  : k166.M w base ok x [.int .i64 x.f0, .int .i64 x.f1, .int .i64 x.f2] := ⟨[.int .i64 x.f0], [.int .i64 x.f1, .int .i64 x.f2], rfl, rfl, ⟨[.int .i64 x.f1], [.int .i64 x.f2], rfl, rfl, rfl⟩⟩
def rd_T166 (xs : List S166) (i : Int) : S166 := xs.getD i.toNat z166
theorem at_T166 {w : World} {A : Option Addr} {n : Nat} {xs : List S166} (h : Kd.C k166 w A n xs) (i : Int) (h0 : 0 ≤ i) (h1 : i < n) : ∃ ad , A = some ad ∧ w.cell? (ad.add (i.toNat * 3)) = some (.int .i64 (rd_T166 xs i).f0) ∧ w.cell? ⟨(ad.add (i.toNat * 3)).block, (ad.add (i.toNat * 3)).off + 1, none⟩ = some (.int .i64 (rd_T166 xs i).f1) ∧ w.cell? ⟨(ad.add (i.toNat * 3)).block, (ad.add (i.toNat * 3)).off + 2, none⟩ = some (.int .i64 (rd_T166 xs i).f2) := by
  obtain ⟨ad, c, e, _, hK, hc0⟩ := Kd.C_get h z166 i h0 h1
  have hc : ∀ j u, c[j]? = some u → w.cell? (ad.add (i.toNat * 3 + j)) = some u := hc0
  obtain rfl := k166_open hK
  exact ⟨ad, e, hc 0 _ rfl, by rw [← add_field _ _ 1 (by omega)]; exact hc 1 _ rfl, by rw [← add_field _ _ 2 (by omega)]; exact hc 2 _ rfl⟩
structure S141 where
  f0 : Int
  f1 : Int
  f2 : Int
def z141 : S141 := ⟨(0 : Int), (0 : Int), (0 : Int)⟩
def k141 : Kd S141 := Kd.iso (Kd.pair (Kd.int .i64) (Kd.pair (Kd.int .i64) (Kd.int .i64))) (fun x : S141 => (x.f0, x.f1, x.f2))
theorem k141_open {w : World} {x : S141} {cs : List Value} (h : k141.K w x cs) : cs = [.int .i64 x.f0, .int .i64 x.f1, .int .i64 x.f2] := by
  obtain ⟨_, _, rfl, rfl, ⟨_, _, rfl, rfl, rfl⟩⟩ := h
  exact rfl
theorem k141_openM {w : World} {base : Nat} {ok : Nat → Prop} {x : S141} {cs : List Value} (h : k141.M w base ok x cs) : cs = [.int .i64 x.f0, .int .i64 x.f1, .int .i64 x.f2] := by
  obtain ⟨_, _, rfl, rfl, ⟨_, _, rfl, rfl, rfl⟩⟩ := h
  exact rfl
theorem k141_mkM (w : World) (base : Nat) (ok : Nat → Prop) (x : S141)  : k141.M w base ok x [.int .i64 x.f0, .int .i64 x.f1, .int .i64 x.f2] := ⟨[.int .i64 x.f0], [.int .i64 x.f1, .int .i64 x.f2], rfl, rfl, ⟨[.int .i64 x.f1], [.int .i64 x.f2], rfl, rfl, rfl⟩⟩
def rd_T141 (xs : List S141) (i : Int) : S141 := xs.getD i.toNat z141
theorem at_T141 {w : World} {A : Option Addr} {n : Nat} {xs : List S141} (h : Kd.C k141 w A n xs) (i : Int) (h0 : 0 ≤ i) (h1 : i < n) : ∃ ad , A = some ad ∧ w.cell? (ad.add (i.toNat * 3)) = some (.int .i64 (rd_T141 xs i).f0) ∧ w.cell? ⟨(ad.add (i.toNat * 3)).block, (ad.add (i.toNat * 3)).off + 1, none⟩ = some (.int .i64 (rd_T141 xs i).f1) ∧ w.cell? ⟨(ad.add (i.toNat * 3)).block, (ad.add (i.toNat * 3)).off + 2, none⟩ = some (.int .i64 (rd_T141 xs i).f2) := by
  obtain ⟨ad, c, e, _, hK, hc0⟩ := Kd.C_get h z141 i h0 h1
  have hc : ∀ j u, c[j]? = some u → w.cell? (ad.add (i.toNat * 3 + j)) = some u := hc0
  obtain rfl := k141_open hK
  exact ⟨ad, e, hc 0 _ rfl, by rw [← add_field _ _ 1 (by omega)]; exact hc 1 _ rfl, by rw [← add_field _ _ 2 (by omega)]; exact hc 2 _ rfl⟩
structure S70 where
  f0 : Int
  f1 : (List Int)
def z70 : S70 := ⟨(0 : Int), ([] : List Int)⟩
def k70 : Kd S70 := Kd.iso (Kd.pair (Kd.int .i64) (Kd.slice 3 (Kd.int .i64))) (fun x : S70 => (x.f0, x.f1))
theorem k70_open {w : World} {x : S70} {cs : List Value} (h : k70.K w x cs) : ∃ A1 c1, cs = [.int .i64 x.f0, .slice A1 x.f1.length c1] ∧ x.f1.length ≤ c1 ∧ (Kd.int .i64).C w A1 x.f1.length x.f1 := by
  obtain ⟨_, _, rfl, rfl, ⟨A1, c1, rfl, l1, g1⟩⟩ := h
  exact ⟨A1, c1, rfl, l1, g1⟩
theorem k70_openM {w : World} {base : Nat} {ok : Nat → Prop} {x : S70} {cs : List Value} (h : k70.M w base ok x cs) : ∃ v1, cs = [.int .i64 x.f0, v1] ∧ (Kd.int .i64).R 3 w base ok v1 x.f1 := by
  obtain ⟨_, _, rfl, rfl, ⟨v1, rfl, g1⟩⟩ := h
  exact ⟨v1, rfl, g1⟩
theorem k70_mkM (w : World) (base : Nat) (ok : Nat → Prop) (x : S70) {v1 : Value} (g1 : (Kd.int .i64).R 3 w base ok v1 x.f1) : k70.M w base ok x [.int .i64 x.f0, v1] := ⟨[.int .i64 x.f0], [v1], rfl, rfl, ⟨v1, rfl, g1⟩⟩
structure S145 where
  f0 : Int
  f1 : Int
  f2 : (List S166)
  f3 : S70
def z145 : S145 := ⟨(0 : Int), (0 : Int), ([] : List S166), z70⟩
def k145 : Kd S145 := Kd.iso (Kd.pair (Kd.int .i64) (Kd.pair (Kd.int .i64) (Kd.pair (Kd.slice 166 k166) k70))) (fun x : S145 => (x.f0, x.f1, x.f2, x.f3))
theorem k145_open {w : World} {x : S145} {cs : List Value} (h : k145.K w x cs) : ∃ A2 c2 A4 c4, cs = [.int .i64 x.f0, .int .i64 x.f1, .slice A2 x.f2.length c2, .int .i64 x.f3.f0, .slice A4 x.f3.f1.length c4] ∧ x.f2.length ≤ c2 ∧ k166.C w A2 x.f2.length x.f2 ∧ x.f3.f1.length ≤ c4 ∧ (Kd.int .i64).C w A4 x.f3.f1.length x.f3.f1 := by
  obtain ⟨_, _, rfl, rfl, ⟨_, _, rfl, rfl, ⟨_, _, rfl, ⟨A2, c2, rfl, l2, g2⟩, s3⟩⟩⟩ := h
  obtain ⟨A4, c4, rfl, l4, g4⟩ := k70_open s3
  exact ⟨A2, c2, A4, c4, rfl, l2, g2, l4, g4⟩
theorem k145_openM {w : World} {base : Nat} {ok : Nat → Prop} {x : S145} {cs : List Value} (h : k145.M w base ok x cs) : ∃ v2 v4, cs = [.int .i64 x.f0, .int .i64 x.f1, v2, .int .i64 x.f3.f0, v4] ∧ k166.R 166 w base ok v2 x.f2 ∧ (Kd.int .i64).R 3 w base ok v4 x.f3.f1 := by
  obtain ⟨_, _, rfl, rfl, ⟨_, _, rfl, rfl, ⟨_, _, rfl, ⟨v2, rfl, g2⟩, s3⟩⟩⟩ := h
  obtain ⟨v4, rfl, g4⟩ := k70_openM s3
  exact ⟨v2, v4, rfl, g2, g4⟩
theorem k145_mkM (w : World) (base : Nat) (ok : Nat → Prop) (x : S145) {v2 : Value} (g2 : k166.R 166 w base ok v2 x.f2) {v4 : Value} (g4 : (Kd.int .i64).R 3 w base ok v4 x.f3.f1) : k145.M w base ok x [.int .i64 x.f0, .int .i64 x.f1, v2, .int .i64 x.f3.f0, v4] := ⟨[.int .i64 x.f0], [.int .i64 x.f1, v2, .int .i64 x.f3.f0, v4], rfl, rfl, ⟨[.int .i64 x.f1], [v2, .int .i64 x.f3.f0, v4], rfl, rfl, ⟨[v2], [.int .i64 x.f3.f0, v4], rfl, ⟨v2, rfl, g2⟩, (k70_mkM w base ok x.f3 g4)⟩⟩⟩
def rd_T145 (xs : List S145) (i : Int) : S145 := xs.getD i.toNat z145
theorem at_T145 {w : World} {A : Option Addr} {n : Nat} {xs : List S145} (h : Kd.C k145 w A n xs) (i : Int) (h0 : 0 ≤ i) (h1 : i < n) : ∃ ad A2 c2 A4 c4, A = some ad ∧ w.cell? (ad.add (i.toNat * 5)) = some (.int .i64 (rd_T145 xs i).f0) ∧ w.cell? ⟨(ad.add (i.toNat * 5)).block, (ad.add (i.toNat * 5)).off + 1, none⟩ = some (.int .i64 (rd_T145 xs i).f1) ∧ w.cell? ⟨(ad.add (i.toNat * 5)).block, (ad.add (i.toNat * 5)).off + 2, none⟩ = some (.slice A2 (rd_T145 xs i).f2.length c2) ∧ w.cell? ⟨(ad.add (i.toNat * 5)).block, (ad.add (i.toNat * 5)).off + 3, none⟩ = some (.int .i64 (rd_T145 xs i).f3.f0) ∧ w.cell? ⟨(ad.add (i.toNat * 5)).block, (ad.add (i.toNat * 5)).off + 4, none⟩ = some (.slice A4 (rd_T145 xs i).f3.f1.length c4) ∧ (rd_T145 xs i).f2.length ≤ c2 ∧ k166.C w A2 (rd_T145 xs i).f2.length (rd_T145 xs i).f2 ∧ (rd_T145 xs i).f3.f1.length ≤ c4 ∧ (Kd.int .i64).C w A4 (rd_T145 xs i).f3.f1.length (rd_T145 xs i).f3.f1 := by
  obtain ⟨ad, c, e, _, hK, hc0⟩ := Kd.C_get h z145 i h0 h1
  have hc : ∀ j u, c[j]? = some u → w.cell? (ad.add (i.toNat * 5 + j)) = some u := hc0
  obtain ⟨A2, c2, A4, c4, rfl, l2, g2, l4, g4⟩ := k145_open hK
  exact ⟨ad, A2, c2, A4, c4, e, hc 0 _ rfl, by rw [← add_field _ _ 1 (by omega)]; exact hc 1 _ rfl, by rw [← add_field _ _ 2 (by omega)]; exact hc 2 _ rfl, by rw [← add_field _ _ 3 (by omega)]; exact hc 3 _ rfl, by rw [← add_field _ _ 4 (by omega)]; exact hc 4 _ rfl, l2, g2, l4, g4⟩
end Go.Proofs.Ytopikhjcbcpiaaa.Q
end
section
namespace Go.Proofs.Ytopikhjcbcpiaaa.Q
open Go.RowKit Go.Proofs.YtopikhjcbcpiaaaW.PrintWords Go.Proofs.YtopikhjcbcpiaaaW.PrintLast Go.Proofs.YtopikhjcbcpiaaaW.PrintMore
theorem sA {α : Type} (l : List α) (i : Nat) (a : α) : l.toArray.setIfInBounds i a = (l.set i a).toArray := List.setIfInBounds_toArray _ _ _
theorem sB {α : Type} (l : List α) (a b : α) : (a :: l).set 0 b = b :: l := List.set_cons_zero ..
theorem sC {α : Type} (l : List α) (a b : α) (n : Nat) : (a :: l).set (n + 1) b = a :: l.set n b := List.set_cons_succ ..
theorem er {p : Prop} (h : p := by first | rfl | (simp [errW_none, errW_some] <;> rfl) | (simp [*, errW_none, errW_some] <;> rfl)) : p := h
theorem od {p : Prop} [Decidable p] (h : decide p = true := by first | (with_reducible assumption) | assumption) : p := of_decide_eq_true h
section
variable {w w1 w2 w' : World} {g g' : Nat} {o : Obj}
theorem bk (b : Aside0 (w.heap[g]? = some o)) (f : w.heap[g]? = some o → w'.heap[g]? = some o := by intro h; (with_reducible repeat (first | refine blk_drewN ?_ _ | refine blk_drew ?_ | refine blk_alloc ?_ _)); exact h) : w'.heap[g]? = some o := f b.out
theorem nl_ (hg : g' = w'.heap.size) (b : Aside0 (w.heap[g]? = some o)) (f : w.heap[g]? = some o → w'.heap[g]? = some o := by intro h; (with_reducible repeat (first | refine blk_drewN ?_ _ | refine blk_drew ?_ | refine blk_alloc ?_ _)); exact h) : g ≠ g' := by rw [hg]; exact Nat.ne_of_lt (blk_lt (f b.out))
theorem ng_ (hg : g' = w'.heap.size) (b : Aside0 (w.heap[g]? = some o)) (f : w.heap[g]? = some o → w'.heap[g]? = some o := by intro h; (with_reducible repeat (first | refine blk_drewN ?_ _ | refine blk_drew ?_ | refine blk_alloc ?_ _)); exact h) : g' ≠ g := by rw [hg]; exact Nat.ne_of_gt (blk_lt (f b.out))
theorem bb (b : Aside0 (w.heap[g]? = some o)) (hb : Below w'.heap.size w' w2) (f : w.heap[g]? = some o → w'.heap[g]? = some o := by intro h; (with_reducible repeat (first | refine blk_drewN ?_ _ | refine blk_drew ?_ | refine blk_alloc ?_ _)); exact h) : Aside0 (w2.heap[g]? = some o) := ⟨blk_below (f b.out) hb⟩
theorem cs2_ {xa xb : Value} {t : TypeId} (h : Aside0 (w.heap[g]? = some (.cells #[xa, xb] t (0, 0)))) : w.cell? ⟨g, 0, none⟩ = some xa ∧ w.cell? ⟨g, 1, none⟩ = some xb ∧ w.frozen? ⟨g, 0, none⟩ = false ∧ w.frozen? ⟨g, 1, none⟩ = false := ⟨(blk_cell h.out 0).trans rfl, (blk_cell h.out 1).trans rfl, blk_frozen h.out 0, blk_frozen h.out 1⟩
theorem ds2_ {xa xb : Value} {t : TypeId} (h : Aside0 (w.heap[g]? = some (.cells #[xa, xb] t (0, 0)))) : w.cell? ⟨g, 0, none⟩ = some xa ∧ w.cell? ⟨g, 1, none⟩ = some xb := ⟨(blk_cell h.out 0).trans rfl, (blk_cell h.out 1).trans rfl⟩
theorem cs3_ {xa xb xc : Value} {t : TypeId} (h : Aside0 (w.heap[g]? = some (.cells #[xa, xb, xc] t (0, 0)))) : w.cell? ⟨g, 0, none⟩ = some xa ∧ w.cell? ⟨g, 1, none⟩ = some xb ∧ w.cell? ⟨g, 2, none⟩ = some xc ∧ w.frozen? ⟨g, 0, none⟩ = false ∧ w.frozen? ⟨g, 1, none⟩ = false ∧ w.frozen? ⟨g, 2, none⟩ = false := ⟨(blk_cell h.out 0).trans rfl, (blk_cell h.out 1).trans rfl, (blk_cell h.out 2).trans rfl, blk_frozen h.out 0, blk_frozen h.out 1, blk_frozen h.out 2⟩
theorem ds3_ {xa xb xc : Value} {t : TypeId} (h : Aside0 (w.heap[g]? = some (.cells #[xa, xb, xc] t (0, 0)))) : w.cell? ⟨g, 0, none⟩ = some xa ∧ w.cell? ⟨g, 1, none⟩ = some xb ∧ w.cell? ⟨g, 2, none⟩ = some xc := ⟨(blk_cell h.out 0).trans rfl, (blk_cell h.out 1).trans rfl, (blk_cell h.out 2).trans rfl⟩
theorem cs4_ {xa xb xc xd : Value} {t : TypeId} (h : Aside0 (w.heap[g]? = some (.cells #[xa, xb, xc, xd] t (0, 0)))) : w.cell? ⟨g, 0, none⟩ = some xa ∧ w.cell? ⟨g, 1, none⟩ = some xb ∧ w.cell? ⟨g, 2, none⟩ = some xc ∧ w.cell? ⟨g, 3, none⟩ = some xd ∧ w.frozen? ⟨g, 0, none⟩ = false ∧ w.frozen? ⟨g, 1, none⟩ = false ∧ w.frozen? ⟨g, 2, none⟩ = false ∧ w.frozen? ⟨g, 3, none⟩ = false := ⟨(blk_cell h.out 0).trans rfl, (blk_cell h.out 1).trans rfl, (blk_cell h.out 2).trans rfl, (blk_cell h.out 3).trans rfl, blk_frozen h.out 0, blk_frozen h.out 1, blk_frozen h.out 2, blk_frozen h.out 3⟩
theorem cs5_ {xa xb xc xd xe : Value} {t : TypeId} (h : Aside0 (w.heap[g]? = some (.cells #[xa, xb, xc, xd, xe] t (0, 0)))) : w.cell? ⟨g, 0, none⟩ = some xa ∧ w.cell? ⟨g, 1, none⟩ = some xb ∧ w.cell? ⟨g, 2, none⟩ = some xc ∧ w.cell? ⟨g, 3, none⟩ = some xd ∧ w.cell? ⟨g, 4, none⟩ = some xe ∧ w.frozen? ⟨g, 0, none⟩ = false ∧ w.frozen? ⟨g, 1, none⟩ = false ∧ w.frozen? ⟨g, 2, none⟩ = false ∧ w.frozen? ⟨g, 3, none⟩ = false ∧ w.frozen? ⟨g, 4, none⟩ = false := ⟨(blk_cell h.out 0).trans rfl, (blk_cell h.out 1).trans rfl, (blk_cell h.out 2).trans rfl, (blk_cell h.out 3).trans rfl, (blk_cell h.out 4).trans rfl, blk_frozen h.out 0, blk_frozen h.out 1, blk_frozen h.out 2, blk_frozen h.out 3, blk_frozen h.out 4⟩
theorem ds5_ {xa xb xc xd xe : Value} {t : TypeId} (h : Aside0 (w.heap[g]? = some (.cells #[xa, xb, xc, xd, xe] t (0, 0)))) : w.cell? ⟨g, 0, none⟩ = some xa ∧ w.cell? ⟨g, 1, none⟩ = some xb ∧ w.cell? ⟨g, 2, none⟩ = some xc ∧ w.cell? ⟨g, 3, none⟩ = some xd ∧ w.cell? ⟨g, 4, none⟩ = some xe := ⟨(blk_cell h.out 0).trans rfl, (blk_cell h.out 1).trans rfl, (blk_cell h.out 2).trans rfl, (blk_cell h.out 3).trans rfl, (blk_cell h.out 4).trans rfl⟩
theorem ox {v : Value} {a : Addr} {u : World} (b : Aside0 (Below u.heap.size u w)) (h : u.cell? a = some v) : w.cell? a = some v := (b.out.cell (World.block_lt_of_cell? u _ h)).trans h
theorem cz {v : Value} {cs : Array Value} {t : TypeId} (b : Aside0 (w.heap[g]? = some (.cells cs t (0, 0)))) (i : Nat) (h : cs[i]? = some v := by exact rfl) : w.cell? ⟨g, i, none⟩ = some v := (blk_cell b.out i).trans h
theorem bf {t : TypeId} {cs : Array Value} (b : Aside0 (w.heap[g]? = some (.cells cs t (0, 0)))) (f : w.heap[g]? = some (.cells cs t (0, 0)) → w'.heap[g]? = some (.cells cs t (0, 0)) := by intro h; repeat (first | (with_reducible exact h) | (with_reducible first | refine blk_drewN ?_ _ | refine blk_drew ?_ | refine blk_alloc ?_ _) | refine blk_far ?_ (Aside0.out (by assumption)) _ | exact h)) : w'.heap[g]? = some (.cells cs t (0, 0)) := f b.out
theorem bd (b : Aside0 (w.heap[g]? = some o)) : Aside0 (w.drew.heap[g]? = some o) := ⟨blk_drew b.out⟩
theorem tb {B : Nat} {u : World} (b : Aside0 (Below B u w)) (f : Below B u w → Below B u w' := by intro h; repeat (first | (with_reducible first | exact h | apply below_alloc | apply pw_below_drewN | apply below_drew1 | refine below_set ?_ (Aside0.out (by assumption))) | exact h)) : Below B u w' := f b.out
theorem bs {u : World} (b : Aside0 (Below u.heap.size u w)) (hb : Below w'.heap.size w' w2) (f : Below u.heap.size u w → Below u.heap.size u w' := by intro h; repeat (first | (with_reducible first | exact h | apply below_alloc | apply pw_below_drewN | apply below_drew1 | refine below_set ?_ (Aside0.out (by assumption))) | exact h)) : Aside0 (Below u.heap.size u w2) := ⟨below_step (f b.out) hb⟩
theorem ge_ {u : World} (hg : g = w'.heap.size) (b : Aside0 (Below u.heap.size u w)) (f : Below u.heap.size u w → Below u.heap.size u w' := by intro h; repeat (first | (with_reducible first | exact h | apply below_alloc | apply pw_below_drewN | apply below_drew1 | refine below_set ?_ (Aside0.out (by assumption))) | exact h)) : u.heap.size ≤ g := by rw [hg]; exact below_size (f b.out)
theorem kr {α : Type} {d : Kd α} {e base : Nat} {ok : Nat → Prop} {v : Value} {xs : List α} (b : d.R e w base ok v xs) (f : d.R e w base ok v xs → d.R e w' base ok v xs := by intro h; (with_reducible repeat (first | apply Kd.R_alloc | apply Kd.R_drewN | apply Kd.R_drew)); exact h) : d.R e w' base ok v xs := f b
theorem rb {α : Type} {d : Kd α} {e base : Nat} {ok : Nat → Prop} {v : Value} {xs : List α} (b : Aside0 (d.R e w base ok v xs)) (hb : Below w'.heap.size w' w2) (f : d.R e w base ok v xs → d.R e w' base ok v xs := by intro h; (with_reducible repeat (first | apply Kd.R_alloc | apply Kd.R_drewN | apply Kd.R_drew)); exact h) : Aside0 (d.R e w2 base ok v xs) := ⟨Kd.R_below (f b.out) hb⟩
theorem rd_ {α : Type} {d : Kd α} {e base : Nat} {ok : Nat → Prop} {v : Value} {xs : List α} (b : Aside0 (d.R e w base ok v xs)) : Aside0 (d.R e w.drew base ok v xs) := ⟨Kd.R_drew b.out⟩
theorem kc {α : Type} {d : Kd α} {A : Option Addr} {n : Nat} {xs : List α} (r : Aside0 (d.C w A n xs)) (b : Aside0 (Below w.heap.size w w1)) (f : d.C w1 A n xs → d.C w' A n xs := by intro h; repeat (first | exact h | (with_reducible refine Kd.C_alloc ?_ _) | (with_reducible refine Kd.C_drewN ?_ _) | (with_reducible refine Kd.C_drew ?_))) : d.C w' A n xs := f (Kd.C_below r.out b.out)
end
section
variable {P : Program} {ops : Array Oper} {rest : List Oper} {o : Oper} {a : Act} {Q : Exit → Act → World → Prop} {W : World} {N : Tmp} {cs : Array Value} {t : TypeId}
theorem bx (h : ∀ g, g = W.heap.size → ∀ w1, w1.heap[g]? = some (.cells cs t (0, 0)) → Below W.heap.size W w1 → wpList P ops Q rest (a.put o.dst (.pointer (some ⟨g, 0, none⟩))) w1) (hd : o.dst = some N := by rfl) (hgd : o.guard = none := by rfl)
    (hrun : (execOp a.eval o).run P W = .ok (.value (.pointer (some ⟨W.heap.size, 0, none⟩))) (W.alloc (.cells cs t (0, 0))) := by first | (go_simp; done) | (go_simp; rfl)) : wpList P ops Q (o :: rest) a W := box_event hgd hd hrun h
theorem gL {oi : Oper} {w : World} (N : Tmp) {f : FuncId} {fn : Func} (hf : P.funcs[f]? = some fn) {ags : Array Operand} {ts : Array TypeId} (args : Array Value)
    (h : Calls P f args w fun e w' => ∃ v, e = .returned v ∧ wpList P ops Q rest (a.put (some N) v) w')
    (hd : oi.dst = some N := by rfl) (hg : oi.guard = none := by rfl) (hname : (fn.name == "runtime.NumGoroutine") = false := by kernel_rfl) (hb : fn.body.isSome = true := by rfl)
    (hop : oi.op = .call { callee := .value (.func f), args := ags, argTypes := ts } := by rfl)
    (hargs : ags.map a.eval = args := by (try simp only [List.map_toArray, List.map_cons, List.map_nil]); first | done | rfl | (simp only [List.length_drop, List.length_take]; rfl)) : wpList P ops Q (oi :: rest) a w := goesL_ (some N) hd hg hf hname hb args hop hargs h
theorem gS {oi : Oper} {w : World} {K : Act → World → Prop} {f : FuncId} {fn : Func} (hf : P.funcs[f]? = some fn) {ags : Array Operand} {ts : Array TypeId} (args : Array Value) {N : Option Tmp}
    (h : Calls P f args w fun e w' => ∃ v, e = .returned v ∧ K (a.put N v) w')
    (hN : oi.dst = N := by rfl) (hname : (fn.name == "runtime.NumGoroutine") = false := by kernel_rfl) (hb : fn.body.isSome = true := by rfl)
    (hw : Region.wanted oi (yielded ops a.tmps) = true := by rfl) (hop : oi.op = .call { callee := .value (.func f), args := ags, argTypes := ts } := by rfl)
    (hargs : ags.map a.eval = args := by (try simp only [List.map_toArray, List.map_cons, List.map_nil]); first | done | rfl | (simp only [List.length_drop, List.length_take]; rfl)) : if Region.wanted oi (yielded ops a.tmps) = true then Oper.wp P oi a w K Q else K (a.put N undef) w := goes_ hf hname hb args hw hN hop hargs h
end
section
variable {P : Program} {ops : Array Oper} {Q : Exit → Act → World → Prop} {md : Region.Mode} {S : World → Prop} {ds : List Nat} {oi : Oper} {fuel : Nat} {l l' : Array Bool} {a a' : Act} {w : World} {v : Value}
theorem pu (i : Nat) (N : Tmp) (h : wpAnyLast P md ops Q S ds fuel l' a' w)
    (hi : ops[i]? = some oi := by exact rfl) (hN : oi.dst = some N := by exact rfl) (_hl : l.setIfInBounds i true = l' := by simp only [sA, sB, sC]; rfl)
    (hc : anyB md ops l l' i = true := by first | exact any_of HT_.out (by kernel_rfl) | kernel_rfl)
    (hQ : ∀ c a w, Q (.panic c) (a.put oi.dst v) w → Q (.panic c) a w := by exact fun _ _ _ h => h)
    (hy : Yields P ops oi v a := by exact Or.inl ⟨by rfl, by intro w'; go_simp; with_reducible rfl⟩)
    (ha : a.put (some N) v = a' := by simp only [Act.put, sA, sB, sC, i64_w, i32_w]; rfl) : wpAnyLast P md ops Q S ds (fuel + 1) l a w := pure_ l' hi hN hc hQ hy ha h
theorem pn (i : Nat) (N : Tmp) (h : wpAnyLast P md ops Q S ds fuel l' a' w)
    (hi : ops[i]? = some oi := by exact rfl) (hN : oi.dst = some N := by exact rfl) (_hl : l.setIfInBounds i true = l' := by simp only [sA, sB, sC]; rfl)
    (hc : anyB md ops l l' i = true := by first | exact any_of HT_.out (by kernel_rfl) | kernel_rfl)
    (hQ : ∀ c a w, Q (.panic c) (a.put oi.dst undef) w → Q (.panic c) a w := by exact fun _ _ _ h => h)
    (hy : Yields P ops oi undef a := by exact Or.inr ⟨by rfl, rfl⟩)
    (ha : a.put (some N) undef = a' := by simp only [Act.put, sA, sB, sC, i64_w, i32_w]; rfl) : wpAnyLast P md ops Q S ds (fuel + 1) l a w := pure_ l' hi hN hc hQ hy ha h
theorem ta (i : Nat) (N : Tmp) (h : wpAnyLast P md ops Q S ds fuel l' a' w)
    (hi : ops[i]? = some oi := by exact rfl) (hN : oi.dst = some N := by exact rfl) (_hl : l.setIfInBounds i true = l' := by simp only [sA, sB, sC]; rfl)
    (hc : takeB md ops ds l l' i = true := by first | exact take_ofW HT_.out HW_.out (by kernel_rfl) | kernel_rfl)
    (hQ : ∀ c a w, Q (.panic c) (a.put oi.dst v) w → Q (.panic c) a w := by exact fun _ _ _ h => h)
    (hy : YieldsIf P ops S oi v a := by exact Or.inl ⟨by rfl, by intro w' hs; (repeat (obtain ⟨_, hs⟩ := hs)); go_simp; with_reducible rfl⟩)
    (hS : S w := by exact hHeld)
    (ha : a.put (some N) v = a' := by simp only [Act.put, sA, sB, sC, i64_w, i32_w]; rfl) : wpAnyLast P md ops Q S ds (fuel + 1) l a w := take_ l' hi hN hc hQ hy hS ha h
theorem nm (N : Tmp) (h : wpAnyLast P md ops Q S ds fuel l a' w) (ha : a.put (some N) v = a' := by simp only [Act.put, sA, sB, sC, i64_w, i32_w]; rfl) : wpAnyLast P md ops Q S ds fuel l (a.put (some N) v) w := norm_ ha h
theorem gd {rest : List Oper} {o : Oper} (N : Tmp) (_hN : o.dst = some N) (h : wpList P ops Q (o :: rest) a w) : wpList P ops Q (o :: rest) a w := h
end
end Go.Proofs.Ytopikhjcbcpiaaa.Q
end
section
namespace Go.Proofs.Ytopikhjcbcpiaaa.Q
open Go.RowKit Go.Proofs.YtopikhjcbcpiaaaW.PrintWords Go.Proofs.YtopikhjcbcpiaaaW.PrintLast Go.Proofs.YtopikhjcbcpiaaaW.PrintMore
theorem ipt {α : Type} {a b c : α} (h : (if true = true then a else b) = c) : a = c := by rwa [if_pos rfl] at h
theorem ipf {α : Type} {a b c : α} (h : (if false = true then a else b) = c) : b = c := by rwa [if_neg (by decide)] at h
theorem bn {α β : Type} {x : Option α} {f : α → Option β} {r : β} (h : x.bind f = some r) : ∃ a, Aside0 (x = some a) ∧ f a = some r := by
  obtain ⟨a, h1, h2⟩ := Option.bind_eq_some_iff.mp h
  exact ⟨a, ⟨h1⟩, h2⟩
theorem oin {α : Type} {a b : α} (h : some a = some b) : a = b := Option.some.inj h
theorem rsd {p : Prop} (h : p := by first | rfl | (simp; done) | (simp [*]; done)) : p := h
section
variable {P : Program} {ops : Array Oper} {rest : List Oper} {o : Oper} {a : Act} {Q : Exit → Act → World → Prop} {W : World}
theorem gq (N : Tmp) (_hN : o.dst = some N) (h : wpList P ops Q (o :: rest) a W) : wpList P ops Q (o :: rest) a W := h
theorem gf (f : FuncId) {az : Array Operand} {ts : Array TypeId} (_ho : o.op = .call { callee := .value (.func f), args := az, argTypes := ts }) (h : wpList P ops Q (o :: rest) a W) : wpList P ops Q (o :: rest) a W := h
end
section
variable {P : Program} {ops : Array Oper} {Q : Exit → Act → World → Prop}
theorem on1 {md : Region.Mode} {S : World → Prop} {ds : List Nat} {oi : Oper} {fuel : Nat} {l l' : Array Bool} {a : Act} {w : World} (i : Nat) (N : Option Tmp) (h : ∀ K : Act → World → Prop, Shut (∀ a' w', S w' → (S w' → wpAnyLast P md ops Q S ds fuel l' a' w') → K a' w') → if Region.wanted oi (yielded ops a.tmps) = true then Oper.wp P oi a w K Q else K (a.put N undef) w)
    (hi : ops[i]? = some oi := by exact rfl) (hN : oi.dst = N := by exact rfl) (_hl : l.setIfInBounds i true = l' := by simp only [sA, sB, sC]; rfl) (hc : readyB md ops l l' i = true := by exact one_of HT_.out (by kernel_rfl)) (hd : i ∉ ds := by decide) : wpAnyLast P md ops Q S ds (fuel + 1) l a w := one_ l' hi hN hc hd h
end
theorem itd {c : Prop} [Decidable c] {α : Type} {a : Option α} {r : α} (h : (if c then a else none) = some r) : decide c = true ∧ a = some r := by by_cases p : c <;> simp_all
theorem itb {c : Prop} [Decidable c] {α : Type} {a : Option α} {r : α} (h : (if c then a else none) = some r) : c = True ∧ decide c = true ∧ a = some r := by by_cases p : c <;> simp_all
theorem icd {c : Prop} [Decidable c] {α : Type} {a b r : α} {G : Prop} (f : decide c = true → a = r → G) (g : decide c = false → b = r → G) (h : (if c then a else b) = r) : G := by
  by_cases p : c
  · rw [if_pos p] at h; exact f (decide_eq_true p) h
  · rw [if_neg p] at h; exact g (decide_eq_false p) h
section
variable {w w' w2 : World} {g : Nat} {t : TypeId} {cs : Array Value}
theorem bbf (b : Aside0 (w.heap[g]? = some (.cells cs t (0, 0)))) (hb : Below w'.heap.size w' w2) (f : w.heap[g]? = some (.cells cs t (0, 0)) → w'.heap[g]? = some (.cells cs t (0, 0)) := by intro h; exact bf ⟨h⟩) : Aside0 (w2.heap[g]? = some (.cells cs t (0, 0))) := ⟨blk_below (f b.out) hb⟩
theorem put2_ {xa xb ya yb : Value} (h : w.heap[g]? = some (.cells #[xa, xb] t (0, 0))) : ((w.setCell ⟨g, 0, none⟩ ya).setCell ⟨g, 1, none⟩ yb).heap[g]? = some (.cells #[ya, yb] t (0, 0)) := (blk_put (cs := #[ya, xb]) (blk_put (cs := #[xa, xb]) (h) 0 _ rfl) 1 _ rfl)
theorem put3_ {xa xb xc ya yb yc : Value} (h : w.heap[g]? = some (.cells #[xa, xb, xc] t (0, 0))) : (((w.setCell ⟨g, 0, none⟩ ya).setCell ⟨g, 1, none⟩ yb).setCell ⟨g, 2, none⟩ yc).heap[g]? = some (.cells #[ya, yb, yc] t (0, 0)) := (blk_put (cs := #[ya, yb, xc]) (blk_put (cs := #[ya, xb, xc]) (blk_put (cs := #[xa, xb, xc]) (h) 0 _ rfl) 1 _ rfl) 2 _ rfl)
theorem bbp3 {xa xb xc ya yb yc : Value} (b : Aside0 (w.heap[g]? = some (.cells #[xa, xb, xc] t (0, 0)))) (hb : Below w'.heap.size w' w2) (f : w.heap[g]? = some (.cells #[xa, xb, xc] t (0, 0)) → w'.heap[g]? = some (.cells #[ya, yb, yc] t (0, 0)) := by intro h; (with_reducible repeat (first | refine blk_drewN ?_ _ | refine blk_drew ?_ | refine blk_alloc ?_ _)); apply put3_; (with_reducible repeat (first | refine blk_drewN ?_ _ | refine blk_drew ?_ | refine blk_alloc ?_ _)); exact h) : Aside0 (w2.heap[g]? = some (.cells #[ya, yb, yc] t (0, 0))) := ⟨blk_below (f b.out) hb⟩
theorem put5_ {xa xb xc xd xe ya yb yc yd ye : Value} (h : w.heap[g]? = some (.cells #[xa, xb, xc, xd, xe] t (0, 0))) : (((((w.setCell ⟨g, 0, none⟩ ya).setCell ⟨g, 1, none⟩ yb).setCell ⟨g, 2, none⟩ yc).setCell ⟨g, 3, none⟩ yd).setCell ⟨g, 4, none⟩ ye).heap[g]? = some (.cells #[ya, yb, yc, yd, ye] t (0, 0)) := (blk_put (cs := #[ya, yb, yc, yd, xe]) (blk_put (cs := #[ya, yb, yc, xd, xe]) (blk_put (cs := #[ya, yb, xc, xd, xe]) (blk_put (cs := #[ya, xb, xc, xd, xe]) (blk_put (cs := #[xa, xb, xc, xd, xe]) (h) 0 _ rfl) 1 _ rfl) 2 _ rfl) 3 _ rfl) 4 _ rfl)
theorem bbp5 {xa xb xc xd xe ya yb yc yd ye : Value} (b : Aside0 (w.heap[g]? = some (.cells #[xa, xb, xc, xd, xe] t (0, 0)))) (hb : Below w'.heap.size w' w2) (f : w.heap[g]? = some (.cells #[xa, xb, xc, xd, xe] t (0, 0)) → w'.heap[g]? = some (.cells #[ya, yb, yc, yd, ye] t (0, 0)) := by intro h; (with_reducible repeat (first | refine blk_drewN ?_ _ | refine blk_drew ?_ | refine blk_alloc ?_ _)); apply put5_; (with_reducible repeat (first | refine blk_drewN ?_ _ | refine blk_drew ?_ | refine blk_alloc ?_ _)); exact h) : Aside0 (w2.heap[g]? = some (.cells #[ya, yb, yc, yd, ye] t (0, 0))) := ⟨blk_below (f b.out) hb⟩
theorem bfp2 {xa xb ya yb : Value} (b : Aside0 (w.heap[g]? = some (.cells #[xa, xb] t (0, 0)))) (f : w.heap[g]? = some (.cells #[xa, xb] t (0, 0)) → w'.heap[g]? = some (.cells #[ya, yb] t (0, 0)) := by intro h; (repeat (first | (with_reducible first | exact h | refine blk_drewN ?_ _ | refine blk_drew ?_ | refine blk_alloc ?_ _) | refine blk_far ?_ (Aside0.out (by assumption)) _)); apply put2_; (repeat (first | (with_reducible first | exact h | refine blk_drewN ?_ _ | refine blk_drew ?_ | refine blk_alloc ?_ _) | refine blk_far ?_ (Aside0.out (by assumption)) _)); done) : w'.heap[g]? = some (.cells #[ya, yb] t (0, 0)) := f b.out
theorem bfp3 {xa xb xc ya yb yc : Value} (b : Aside0 (w.heap[g]? = some (.cells #[xa, xb, xc] t (0, 0)))) (f : w.heap[g]? = some (.cells #[xa, xb, xc] t (0, 0)) → w'.heap[g]? = some (.cells #[ya, yb, yc] t (0, 0)) := by intro h; (repeat (first | (with_reducible first | exact h | refine blk_drewN ?_ _ | refine blk_drew ?_ | refine blk_alloc ?_ _) | refine blk_far ?_ (Aside0.out (by assumption)) _)); apply put3_; (repeat (first | (with_reducible first | exact h | refine blk_drewN ?_ _ | refine blk_drew ?_ | refine blk_alloc ?_ _) | refine blk_far ?_ (Aside0.out (by assumption)) _)); done) : w'.heap[g]? = some (.cells #[ya, yb, yc] t (0, 0)) := f b.out
theorem bfp5 {xa xb xc xd xe ya yb yc yd ye : Value} (b : Aside0 (w.heap[g]? = some (.cells #[xa, xb, xc, xd, xe] t (0, 0)))) (f : w.heap[g]? = some (.cells #[xa, xb, xc, xd, xe] t (0, 0)) → w'.heap[g]? = some (.cells #[ya, yb, yc, yd, ye] t (0, 0)) := by intro h; (repeat (first | (with_reducible first | exact h | refine blk_drewN ?_ _ | refine blk_drew ?_ | refine blk_alloc ?_ _) | refine blk_far ?_ (Aside0.out (by assumption)) _)); apply put5_; (repeat (first | (with_reducible first | exact h | refine blk_drewN ?_ _ | refine blk_drew ?_ | refine blk_alloc ?_ _) | refine blk_far ?_ (Aside0.out (by assumption)) _)); done) : w'.heap[g]? = some (.cells #[ya, yb, yc, yd, ye] t (0, 0)) := f b.out
theorem ox3 {pa pb pc : Addr} {xa xb xc : Value} {u : World} (b : Aside0 (Below u.heap.size u w)) (h : u.cell? pa = some xa ∧ u.cell? pb = some xb ∧ u.cell? pc = some xc) : w.cell? pa = some xa ∧ w.cell? pb = some xb ∧ w.cell? pc = some xc := ⟨ox b h.1, ox b h.2.1, ox b h.2.2⟩
theorem ox5 {pa pb pc pd pe : Addr} {xa xb xc xd xe : Value} {u : World} (b : Aside0 (Below u.heap.size u w)) (h : u.cell? pa = some xa ∧ u.cell? pb = some xb ∧ u.cell? pc = some xc ∧ u.cell? pd = some xd ∧ u.cell? pe = some xe) : w.cell? pa = some xa ∧ w.cell? pb = some xb ∧ w.cell? pc = some xc ∧ w.cell? pd = some xd ∧ w.cell? pe = some xe := ⟨ox b h.1, ox b h.2.1, ox b h.2.2.1, ox b h.2.2.2.1, ox b h.2.2.2.2⟩
abbrev cS2 (g : Nat) (xa xb : Value) (w : World) : Prop := w.cell? ⟨g, 0, none⟩ = some xa ∧ w.cell? ⟨g, 1, none⟩ = some xb
abbrev cS3 (g : Nat) (xa xb xc : Value) (w : World) : Prop := w.cell? ⟨g, 0, none⟩ = some xa ∧ w.cell? ⟨g, 1, none⟩ = some xb ∧ w.cell? ⟨g, 2, none⟩ = some xc
abbrev cS5 (g : Nat) (xa xb xc xd xe : Value) (w : World) : Prop := w.cell? ⟨g, 0, none⟩ = some xa ∧ w.cell? ⟨g, 1, none⟩ = some xb ∧ w.cell? ⟨g, 2, none⟩ = some xc ∧ w.cell? ⟨g, 3, none⟩ = some xd ∧ w.cell? ⟨g, 4, none⟩ = some xe
end
section
variable {P : Program} {ops : Array Oper} {rest : List Oper} {o : Oper} {a : Act} {Q : Exit → Act → World → Prop} {u W : World} {N : Tmp} {cs : Array Value} {t : TypeId}
theorem bx0 {ub : World} (B : Aside0 (Below u.heap.size u ub)) (h : ∀ g w1, Aside0 (w1.heap[g]? = some (.cells cs t (0, 0))) → Aside0 (u.heap.size ≤ g) → Aside0 (Below u.heap.size u w1) → wpList P ops Q rest (a.put o.dst (.pointer (some ⟨g, 0, none⟩))) w1) (hd : o.dst = some N := by rfl) (hgd : o.guard = none := by rfl)
    (hrun : (execOp a.eval o).run P W = .ok (.value (.pointer (some ⟨W.heap.size, 0, none⟩))) (W.alloc (.cells cs t (0, 0))) := by first | (go_simp; done) | (go_simp; rfl)) (fb : Below u.heap.size u ub → Below u.heap.size u W := by intro h; exact tb ⟨h⟩) : wpList P ops Q (o :: rest) a W :=
  bx (fun g hg w1 hbox hb => h g w1 ⟨hbox⟩ ⟨hg ▸ (fb B.out).size⟩ ⟨below_step (fb B.out) hb⟩) hd hgd hrun
theorem bx1 {ub : World} {g0 : Nat} {o0 : Obj} {u0 : World} (B : Aside0 (Below u.heap.size u ub)) (b0 : Aside0 (u0.heap[g0]? = some o0)) (h : ∀ g w1, Aside0 (w1.heap[g]? = some (.cells cs t (0, 0))) → Aside0 (u.heap.size ≤ g) → Aside0 (Below u.heap.size u w1) → Aside0 (g0 ≠ g) → Aside0 (g ≠ g0) → Aside0 (w1.heap[g0]? = some o0) → wpList P ops Q rest (a.put o.dst (.pointer (some ⟨g, 0, none⟩))) w1) (hd : o.dst = some N := by rfl) (hgd : o.guard = none := by rfl)
    (hrun : (execOp a.eval o).run P W = .ok (.value (.pointer (some ⟨W.heap.size, 0, none⟩))) (W.alloc (.cells cs t (0, 0))) := by first | (go_simp; done) | (go_simp; rfl)) (fb : Below u.heap.size u ub → Below u.heap.size u W := by intro h; exact tb ⟨h⟩) (f0 : u0.heap[g0]? = some o0 → W.heap[g0]? = some o0 := by intro h; exact bk ⟨h⟩) : wpList P ops Q (o :: rest) a W :=
  bx (fun g hg w1 hbox hb => h g w1 ⟨hbox⟩ ⟨hg ▸ (fb B.out).size⟩ ⟨below_step (fb B.out) hb⟩ ⟨Nat.ne_of_lt (hg ▸ blk_lt (f0 b0.out))⟩ ⟨Nat.ne_of_gt (hg ▸ blk_lt (f0 b0.out))⟩ ⟨blk_below (f0 b0.out) hb⟩) hd hgd hrun
theorem bx2 {ub : World} {g0 g1 : Nat} {o0 o1 : Obj} {u0 u1 : World} (B : Aside0 (Below u.heap.size u ub)) (b0 : Aside0 (u0.heap[g0]? = some o0)) (b1 : Aside0 (u1.heap[g1]? = some o1)) (h : ∀ g w1, Aside0 (w1.heap[g]? = some (.cells cs t (0, 0))) → Aside0 (u.heap.size ≤ g) → Aside0 (Below u.heap.size u w1) → Aside0 (g0 ≠ g) → Aside0 (g ≠ g0) → Aside0 (w1.heap[g0]? = some o0) → Aside0 (g1 ≠ g) → Aside0 (g ≠ g1) → Aside0 (w1.heap[g1]? = some o1) → wpList P ops Q rest (a.put o.dst (.pointer (some ⟨g, 0, none⟩))) w1) (hd : o.dst = some N := by rfl) (hgd : o.guard = none := by rfl)
    (hrun : (execOp a.eval o).run P W = .ok (.value (.pointer (some ⟨W.heap.size, 0, none⟩))) (W.alloc (.cells cs t (0, 0))) := by first | (go_simp; done) | (go_simp; rfl)) (fb : Below u.heap.size u ub → Below u.heap.size u W := by intro h; exact tb ⟨h⟩) (f0 : u0.heap[g0]? = some o0 → W.heap[g0]? = some o0 := by intro h; exact bk ⟨h⟩) (f1 : u1.heap[g1]? = some o1 → W.heap[g1]? = some o1 := by intro h; exact bk ⟨h⟩) : wpList P ops Q (o :: rest) a W :=
  bx (fun g hg w1 hbox hb => h g w1 ⟨hbox⟩ ⟨hg ▸ (fb B.out).size⟩ ⟨below_step (fb B.out) hb⟩ ⟨Nat.ne_of_lt (hg ▸ blk_lt (f0 b0.out))⟩ ⟨Nat.ne_of_gt (hg ▸ blk_lt (f0 b0.out))⟩ ⟨blk_below (f0 b0.out) hb⟩ ⟨Nat.ne_of_lt (hg ▸ blk_lt (f1 b1.out))⟩ ⟨Nat.ne_of_gt (hg ▸ blk_lt (f1 b1.out))⟩ ⟨blk_below (f1 b1.out) hb⟩) hd hgd hrun
theorem bx3 {ub : World} {g0 g1 g2 : Nat} {o0 o1 o2 : Obj} {u0 u1 u2 : World} (B : Aside0 (Below u.heap.size u ub)) (b0 : Aside0 (u0.heap[g0]? = some o0)) (b1 : Aside0 (u1.heap[g1]? = some o1)) (b2 : Aside0 (u2.heap[g2]? = some o2)) (h : ∀ g w1, Aside0 (w1.heap[g]? = some (.cells cs t (0, 0))) → Aside0 (u.heap.size ≤ g) → Aside0 (Below u.heap.size u w1) → Aside0 (g0 ≠ g) → Aside0 (g ≠ g0) → Aside0 (w1.heap[g0]? = some o0) → Aside0 (g1 ≠ g) → Aside0 (g ≠ g1) → Aside0 (w1.heap[g1]? = some o1) → Aside0 (g2 ≠ g) → Aside0 (g ≠ g2) → Aside0 (w1.heap[g2]? = some o2) → wpList P ops Q rest (a.put o.dst (.pointer (some ⟨g, 0, none⟩))) w1) (hd : o.dst = some N := by rfl) (hgd : o.guard = none := by rfl)
    (hrun : (execOp a.eval o).run P W = .ok (.value (.pointer (some ⟨W.heap.size, 0, none⟩))) (W.alloc (.cells cs t (0, 0))) := by first | (go_simp; done) | (go_simp; rfl)) (fb : Below u.heap.size u ub → Below u.heap.size u W := by intro h; exact tb ⟨h⟩) (f0 : u0.heap[g0]? = some o0 → W.heap[g0]? = some o0 := by intro h; exact bk ⟨h⟩) (f1 : u1.heap[g1]? = some o1 → W.heap[g1]? = some o1 := by intro h; exact bk ⟨h⟩) (f2 : u2.heap[g2]? = some o2 → W.heap[g2]? = some o2 := by intro h; exact bk ⟨h⟩) : wpList P ops Q (o :: rest) a W :=
  bx (fun g hg w1 hbox hb => h g w1 ⟨hbox⟩ ⟨hg ▸ (fb B.out).size⟩ ⟨below_step (fb B.out) hb⟩ ⟨Nat.ne_of_lt (hg ▸ blk_lt (f0 b0.out))⟩ ⟨Nat.ne_of_gt (hg ▸ blk_lt (f0 b0.out))⟩ ⟨blk_below (f0 b0.out) hb⟩ ⟨Nat.ne_of_lt (hg ▸ blk_lt (f1 b1.out))⟩ ⟨Nat.ne_of_gt (hg ▸ blk_lt (f1 b1.out))⟩ ⟨blk_below (f1 b1.out) hb⟩ ⟨Nat.ne_of_lt (hg ▸ blk_lt (f2 b2.out))⟩ ⟨Nat.ne_of_gt (hg ▸ blk_lt (f2 b2.out))⟩ ⟨blk_below (f2 b2.out) hb⟩) hd hgd hrun
end
theorem att143 {w : World} {A : Option Addr} {n : Nat} {xs : List S143} (h : Kd.C k143 w A n xs) (i : Int) (h0 : 0 ≤ i) (h1 : i < n) : ∃ ad , A = some ad ∧ (w.cell? (ad.add (i.toNat * 3)) = some (.int .i64 (rd_T143 xs i).f0) ∧ w.cell? ⟨(ad.add (i.toNat * 3)).block, (ad.add (i.toNat * 3)).off + 1, none⟩ = some (.int .i64 (rd_T143 xs i).f1) ∧ w.cell? ⟨(ad.add (i.toNat * 3)).block, (ad.add (i.toNat * 3)).off + 2, none⟩ = some (.int .i64 (rd_T143 xs i).f2)) := by
  obtain ⟨ad, e, y0, y1, y2⟩ := at_T143 h i h0 h1
  exact ⟨ad, e, ⟨y0, y1, y2⟩⟩
theorem att168 {w : World} {A : Option Addr} {n : Nat} {xs : List S168} (h : Kd.C k168 w A n xs) (i : Int) (h0 : 0 ≤ i) (h1 : i < n) : ∃ ad , A = some ad ∧ (w.cell? (ad.add (i.toNat * 3)) = some (.int .i64 (rd_T168 xs i).f0) ∧ w.cell? ⟨(ad.add (i.toNat * 3)).block, (ad.add (i.toNat * 3)).off + 1, none⟩ = some (.int .i64 (rd_T168 xs i).f1) ∧ w.cell? ⟨(ad.add (i.toNat * 3)).block, (ad.add (i.toNat * 3)).off + 2, none⟩ = some (.int .i64 (rd_T168 xs i).f2)) := by
  obtain ⟨ad, e, y0, y1, y2⟩ := at_T168 h i h0 h1
  exact ⟨ad, e, ⟨y0, y1, y2⟩⟩
theorem att138 {w : World} {A : Option Addr} {n : Nat} {xs : List S138} (h : Kd.C k138 w A n xs) (i : Int) (h0 : 0 ≤ i) (h1 : i < n) : ∃ ad A2 c2 A4 c4, A = some ad ∧ (w.cell? (ad.add (i.toNat * 5)) = some (.int .i64 (rd_T138 xs i).f0) ∧ w.cell? ⟨(ad.add (i.toNat * 5)).block, (ad.add (i.toNat * 5)).off + 1, none⟩ = some (.int .i64 (rd_T138 xs i).f1) ∧ w.cell? ⟨(ad.add (i.toNat * 5)).block, (ad.add (i.toNat * 5)).off + 2, none⟩ = some (.slice A2 (rd_T138 xs i).f2.length c2) ∧ w.cell? ⟨(ad.add (i.toNat * 5)).block, (ad.add (i.toNat * 5)).off + 3, none⟩ = some (.int .i64 (rd_T138 xs i).f3.f0) ∧ w.cell? ⟨(ad.add (i.toNat * 5)).block, (ad.add (i.toNat * 5)).off + 4, none⟩ = some (.slice A4 (rd_T138 xs i).f3.f1.length c4)) ∧ (rd_T138 xs i).f2.length ≤ c2 ∧ k168.C w A2 (rd_T138 xs i).f2.length (rd_T138 xs i).f2 ∧ (rd_T138 xs i).f3.f1.length ≤ c4 ∧ (Kd.int .i64).C w A4 (rd_T138 xs i).f3.f1.length (rd_T138 xs i).f3.f1 := by
  obtain ⟨ad, A2, c2, A4, c4, e, y0, y1, y2, y3, y4, y5, y6, y7, y8⟩ := at_T138 h i h0 h1
  exact ⟨ad, A2, c2, A4, c4, e, ⟨y0, y1, y2, y3, y4⟩, y5, y6, y7, y8⟩
abbrev eT166 (p : Addr) (x : S166) (w : World) : Prop := w.cell? p = some (.int .i64 x.f0) ∧ w.cell? ⟨p.block, p.off + 1, none⟩ = some (.int .i64 x.f1) ∧ w.cell? ⟨p.block, p.off + 2, none⟩ = some (.int .i64 x.f2)
theorem att166 {w : World} {A : Option Addr} {n : Nat} {xs : List S166} (h : Kd.C k166 w A n xs) (i : Int) (h0 : 0 ≤ i) (h1 : i < n) : ∃ ad , A = some ad ∧ (w.cell? (ad.add (i.toNat * 3)) = some (.int .i64 (rd_T166 xs i).f0) ∧ w.cell? ⟨(ad.add (i.toNat * 3)).block, (ad.add (i.toNat * 3)).off + 1, none⟩ = some (.int .i64 (rd_T166 xs i).f1) ∧ w.cell? ⟨(ad.add (i.toNat * 3)).block, (ad.add (i.toNat * 3)).off + 2, none⟩ = some (.int .i64 (rd_T166 xs i).f2)) := by
  obtain ⟨ad, e, y0, y1, y2⟩ := at_T166 h i h0 h1
  exact ⟨ad, e, ⟨y0, y1, y2⟩⟩
abbrev eT141 (p : Addr) (x : S141) (w : World) : Prop := w.cell? p = some (.int .i64 x.f0) ∧ w.cell? ⟨p.block, p.off + 1, none⟩ = some (.int .i64 x.f1) ∧ w.cell? ⟨p.block, p.off + 2, none⟩ = some (.int .i64 x.f2)
theorem att141 {w : World} {A : Option Addr} {n : Nat} {xs : List S141} (h : Kd.C k141 w A n xs) (i : Int) (h0 : 0 ≤ i) (h1 : i < n) : ∃ ad , A = some ad ∧ (w.cell? (ad.add (i.toNat * 3)) = some (.int .i64 (rd_T141 xs i).f0) ∧ w.cell? ⟨(ad.add (i.toNat * 3)).block, (ad.add (i.toNat * 3)).off + 1, none⟩ = some (.int .i64 (rd_T141 xs i).f1) ∧ w.cell? ⟨(ad.add (i.toNat * 3)).block, (ad.add (i.toNat * 3)).off + 2, none⟩ = some (.int .i64 (rd_T141 xs i).f2)) := by
  obtain ⟨ad, e, y0, y1, y2⟩ := at_T141 h i h0 h1
  exact ⟨ad, e, ⟨y0, y1, y2⟩⟩
abbrev eT145 (p : Addr) (x : S145) (A2 : Option Addr) (c2 : Nat) (A4 : Option Addr) (c4 : Nat) (w : World) : Prop := w.cell? p = some (.int .i64 x.f0) ∧ w.cell? ⟨p.block, p.off + 1, none⟩ = some (.int .i64 x.f1) ∧ w.cell? ⟨p.block, p.off + 2, none⟩ = some (.slice A2 x.f2.length c2) ∧ w.cell? ⟨p.block, p.off + 3, none⟩ = some (.int .i64 x.f3.f0) ∧ w.cell? ⟨p.block, p.off + 4, none⟩ = some (.slice A4 x.f3.f1.length c4)
theorem att145 {w : World} {A : Option Addr} {n : Nat} {xs : List S145} (h : Kd.C k145 w A n xs) (i : Int) (h0 : 0 ≤ i) (h1 : i < n) : ∃ ad A2 c2 A4 c4, A = some ad ∧ (w.cell? (ad.add (i.toNat * 5)) = some (.int .i64 (rd_T145 xs i).f0) ∧ w.cell? ⟨(ad.add (i.toNat * 5)).block, (ad.add (i.toNat * 5)).off + 1, none⟩ = some (.int .i64 (rd_T145 xs i).f1) ∧ w.cell? ⟨(ad.add (i.toNat * 5)).block, (ad.add (i.toNat * 5)).off + 2, none⟩ = some (.slice A2 (rd_T145 xs i).f2.length c2) ∧ w.cell? ⟨(ad.add (i.toNat * 5)).block, (ad.add (i.toNat * 5)).off + 3, none⟩ = some (.int .i64 (rd_T145 xs i).f3.f0) ∧ w.cell? ⟨(ad.add (i.toNat * 5)).block, (ad.add (i.toNat * 5)).off + 4, none⟩ = some (.slice A4 (rd_T145 xs i).f3.f1.length c4)) ∧ (rd_T145 xs i).f2.length ≤ c2 ∧ k166.C w A2 (rd_T145 xs i).f2.length (rd_T145 xs i).f2 ∧ (rd_T145 xs i).f3.f1.length ≤ c4 ∧ (Kd.int .i64).C w A4 (rd_T145 xs i).f3.f1.length (rd_T145 xs i).f3.f1 := by
  obtain ⟨ad, A2, c2, A4, c4, e, y0, y1, y2, y3, y4, y5, y6, y7, y8⟩ := at_T145 h i h0 h1
  exact ⟨ad, A2, c2, A4, c4, e, ⟨y0, y1, y2, y3, y4⟩, y5, y6, y7, y8⟩
end Go.Proofs.Ytopikhjcbcpiaaa.Q
end
