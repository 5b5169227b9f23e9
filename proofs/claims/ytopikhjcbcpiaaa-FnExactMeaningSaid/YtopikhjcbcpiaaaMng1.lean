/- Part 1 of the steps by which the law is shown: what each function of the program, of the reference and of the law computes. No condition. -/
import Derived.Test.YtopikhjcbcpiaaaProg
import Derived.Test.YtopikhjcbcpiaaaMng0
section
namespace Go.Proofs.Ytopikhjcbcpiaaa.Q
open Go.RowKit Go.Proofs.YtopikhjcbcpiaaaW.PrintWords Go.Proofs.YtopikhjcbcpiaaaW.PrintLast Go.Proofs.YtopikhjcbcpiaaaW.PrintMore
attribute [local go_sem] max2_int min2_int max_two min_two max_three min_three max_four min_four   -- for this text's walks alone
set_option linter.unusedVariables false
set_option linter.unusedSimpArgs false
def errW : Option Int → Value
  | none => .nilIface
  | some c => .iface 0 (.int .i64 c)
theorem errW_none : errW none = .nilIface := rfl
theorem errW_some (c : Int) : errW (some c) = .iface 0 (.int .i64 c) := rfl
theorem info3 : (Try.prog.info? 3).map (fun i => (i.zero, i.size, i.bytes)) = some (some (.int .i64 0), 1, 8) := by kernel_rfl
theorem info141 : (Try.prog.info? 141).map (fun i => (i.zero, i.size, i.bytes)) = some (some (.agg #[(.int .i64 0), (.int .i64 0), (.int .i64 0)]), 3, 24) := by kernel_rfl
theorem info145 : (Try.prog.info? 145).map (fun i => (i.zero, i.size, i.bytes)) = some (some (.agg #[(.int .i64 0), (.int .i64 0), (.slice none 0 0), (.int .i64 0), (.slice none 0 0)]), 5, 72) := by kernel_rfl
theorem info166 : (Try.prog.info? 166).map (fun i => (i.zero, i.size, i.bytes)) = some (some (.agg #[(.int .i64 0), (.int .i64 0), (.int .i64 0)]), 3, 24) := by kernel_rfl
structure S143 where
  f0 : Int
  f1 : Int
  f2 : Int
def z143 : S143 := ⟨(0 : Int), (0 : Int), (0 : Int)⟩
def k143 : Kd S143 := Kd.iso (Kd.pair (Kd.int .i64) (Kd.pair (Kd.int .i64) (Kd.int .i64))) (fun x : S143 => (x.f0, x.f1, x.f2))
theorem k143_open {w : World} {x : S143} {cs : List Value} (h : k143.K w x cs) : cs = [.int .i64 x.f0, .int .i64 x.f1, .int .i64 x.f2] := by
  obtain ⟨_, _, rfl, rfl, ⟨_, _, rfl, rfl, rfl⟩⟩ := h
  exact rfl
def rd_T143 (xs : List S143) (i : Int) : S143 := xs.getD i.toNat z143
theorem at_T143 {w : World} {A : Option Addr} {n : Nat} {xs : List S143} (h : Kd.C k143 w A n xs) (i : Int) (h0 : 0 ≤ i) (h1 : i < n) : ∃ ad , A = some ad ∧ w.cell? (ad.add (i.toNat * 3)) = some (.int .i64 (rd_T143 xs i).f0) ∧ w.cell? ⟨(ad.add (i.toNat * 3)).block, (ad.add (i.toNat * 3)).off + 1, none⟩ = some (.int .i64 (rd_T143 xs i).f1) ∧ w.cell? ⟨(ad.add (i.toNat * 3)).block, (ad.add (i.toNat * 3)).off + 2, none⟩ = some (.int .i64 (rd_T143 xs i).f2) := by
  obtain ⟨ad, c, e, _, hK, hc0⟩ := Kd.C_get h z143 i h0 h1
  have hc : ∀ j u, c[j]? = some u → w.cell? (ad.add (i.toNat * 3 + j)) = some u := hc0
  obtain rfl := k143_open hK
  exact ⟨ad, e, hc 0 _ rfl, by rw [← add_field _ _ 1 (by omega)]; exact hc 1 _ rfl, by rw [← add_field _ _ 2 (by omega)]; exact hc 2 _ rfl⟩
structure S168 where
  f0 : Int
  f1 : Int
  f2 : Int
def z168 : S168 := ⟨(0 : Int), (0 : Int), (0 : Int)⟩
def k168 : Kd S168 := Kd.iso (Kd.pair (Kd.int .i64) (Kd.pair (Kd.int .i64) (Kd.int .i64))) (fun x : S168 => (x.f0, x.f1, x.f2))
theorem k168_open {w : World} {x : S168} {cs : List Value} (h : k168.K w x cs) : cs = [.int .i64 x.f0, .int .i64 x.f1, .int .i64 x.f2] := by
  obtain ⟨_, _, rfl, rfl, ⟨_, _, rfl, rfl, rfl⟩⟩ := h
  exact rfl
def rd_T168 (xs : List S168) (i : Int) : S168 := xs.getD i.toNat z168
theorem at_T168 {w : World} {A : Option Addr} {n : Nat} {xs : List S168} (h : Kd.C k168 w A n xs) (i : Int) (h0 : 0 ≤ i) (h1 : i < n) : ∃ ad , A = some ad ∧ w.cell? (ad.add (i.toNat * 3)) = some (.int .i64 (rd_T168 xs i).f0) ∧ w.cell? ⟨(ad.add (i.toNat * 3)).block, (ad.add (i.toNat * 3)).off + 1, none⟩ = some (.int .i64 (rd_T168 xs i).f1) ∧ w.cell? ⟨(ad.add (i.toNat * 3)).block, (ad.add (i.toNat * 3)).off + 2, none⟩ = some (.int .i64 (rd_T168 xs i).f2) := by
  obtain ⟨ad, c, e, _, hK, hc0⟩ := Kd.C_get h z168 i h0 h1
  have hc : ∀ j u, c[j]? = some u → w.cell? (ad.add (i.toNat * 3 + j)) = some u := hc0
  obtain rfl := k168_open hK
  exact ⟨ad, e, hc 0 _ rfl, by rw [← add_field _ _ 1 (by omega)]; exact hc 1 _ rfl, by rw [← add_field _ _ 2 (by omega)]; exact hc 2 _ rfl⟩
structure S62 where
  f0 : Int
  f1 : (List Int)
def z62 : S62 := ⟨(0 : Int), ([] : List Int)⟩
def k62 : Kd S62 := Kd.iso (Kd.pair (Kd.int .i64) (Kd.slice 3 (Kd.int .i64))) (fun x : S62 => (x.f0, x.f1))
theorem k62_open {w : World} {x : S62} {cs : List Value} (h : k62.K w x cs) : ∃ A1 c1, cs = [.int .i64 x.f0, .slice A1 x.f1.length c1] ∧ x.f1.length ≤ c1 ∧ (Kd.int .i64).C w A1 x.f1.length x.f1 := by
  obtain ⟨_, _, rfl, rfl, ⟨A1, c1, rfl, l1, g1⟩⟩ := h
  exact ⟨A1, c1, rfl, l1, g1⟩
structure S138 where
  f0 : Int
  f1 : Int
  f2 : (List S168)
  f3 : S62
def z138 : S138 := ⟨(0 : Int), (0 : Int), ([] : List S168), z62⟩
def k138 : Kd S138 := Kd.iso (Kd.pair (Kd.int .i64) (Kd.pair (Kd.int .i64) (Kd.pair (Kd.slice 168 k168) k62))) (fun x : S138 => (x.f0, x.f1, x.f2, x.f3))
theorem k138_open {w : World} {x : S138} {cs : List Value} (h : k138.K w x cs) : ∃ A2 c2 A4 c4, cs = [.int .i64 x.f0, .int .i64 x.f1, .slice A2 x.f2.length c2, .int .i64 x.f3.f0, .slice A4 x.f3.f1.length c4] ∧ x.f2.length ≤ c2 ∧ k168.C w A2 x.f2.length x.f2 ∧ x.f3.f1.length ≤ c4 ∧ (Kd.int .i64).C w A4 x.f3.f1.length x.f3.f1 := by
  obtain ⟨_, _, rfl, rfl, ⟨_, _, rfl, rfl, ⟨_, _, rfl, ⟨A2, c2, rfl, l2, g2⟩, s3⟩⟩⟩ := h
  obtain ⟨A4, c4, rfl, l4, g4⟩ := k62_open s3
  exact ⟨A2, c2, A4, c4, rfl, l2, g2, l4, g4⟩
def rd_T138 (xs : List S138) (i : Int) : S138 := xs.getD i.toNat z138
theorem at_T138 {w : World} {A : Option Addr} {n : Nat} {xs : List S138} (h : Kd.C k138 w A n xs) (i : Int) (h0 : 0 ≤ i) (h1 : i < n) : ∃ ad A2 c2 A4 c4, A = some ad ∧ w.cell? (ad.add (i.toNat * 5)) = some (.int .i64 (rd_T138 xs i).f0) ∧ w.cell? ⟨(ad.add (i.toNat * 5)).block, (ad.add (i.toNat * 5)).off + 1, none⟩ = some (.int .i64 (rd_T138 xs i).f1) ∧ w.cell? ⟨(ad.add (i.toNat * 5)).block, (ad.add (i.toNat * 5)).off + 2, none⟩ = some (.slice A2 (rd_T138 xs i).f2.length c2) ∧ w.cell? ⟨(ad.add (i.toNat * 5)).block, (ad.add (i.toNat * 5)).off + 3, none⟩ = some (.int .i64 (rd_T138 xs i).f3.f0) ∧ w.cell? ⟨(ad.add (i.toNat * 5)).block, (ad.add (i.toNat * 5)).off + 4, none⟩ = some (.slice A4 (rd_T138 xs i).f3.f1.length c4) ∧ (rd_T138 xs i).f2.length ≤ c2 ∧ k168.C w A2 (rd_T138 xs i).f2.length (rd_T138 xs i).f2 ∧ (rd_T138 xs i).f3.f1.length ≤ c4 ∧ (Kd.int .i64).C w A4 (rd_T138 xs i).f3.f1.length (rd_T138 xs i).f3.f1 := by
  obtain ⟨ad, c, e, _, hK, hc0⟩ := Kd.C_get h z138 i h0 h1
  have hc : ∀ j u, c[j]? = some u → w.cell? (ad.add (i.toNat * 5 + j)) = some u := hc0
  obtain ⟨A2, c2, A4, c4, rfl, l2, g2, l4, g4⟩ := k138_open hK
  exact ⟨ad, A2, c2, A4, c4, e, hc 0 _ rfl, by rw [← add_field _ _ 1 (by omega)]; exact hc 1 _ rfl, by rw [← add_field _ _ 2 (by omega)]; exact hc 2 _ rfl, by rw [← add_field _ _ 3 (by omega)]; exact hc 3 _ rfl, by rw [← add_field _ _ 4 (by omega)]; exact hc 4 _ rfl, l2, g2, l4, g4⟩
structure S166 where
  f0 : Int
  f1 : Int
  f2 : Int
def z166 : S166 := ⟨(0 : Int), (0 : Int), (0 : Int)⟩
def k166 : Kd S166 := Kd.iso (Kd.pair (Kd.int .i64) (Kd.pair (Kd.int .i64) (Kd.int .i64))) (fun x : S166 => (x.f0, x.f1, x.f2))
theorem k166_open {w : World} {x : S166} {cs : List Value} (h : k166.K w x cs) : cs = [.int .i64 x.f0, .int .i64 x.f1, .int .i64 x.f2] := by
  obtain ⟨_, _, rfl, rfl, ⟨_, _, rfl, rfl, rfl⟩⟩ := h
  exact rfl
theorem k166_openM {w : World} {base : Nat} {ok : Nat → Prop} {x : S166} {cs : List Value} (h : k166.M w base ok x cs) : cs = [.int .i64 x.f0, .int .i64 x.f1, .int .i64 x.f2] := by
  obtain ⟨_, _, rfl, rfl, ⟨_, _, rfl, rfl, rfl⟩⟩ := h
  exact rfl
theorem k166_mkM (w : World) (base : Nat) (ok : Nat → Prop) (x : S166)  : k166.M w base ok x [.int .i64 x.f0, .int .i64 x.f1, .int .i64 x.f2] := ⟨[.int .i64 x.f0], [.int .i64 x.f1, .int .i64 x.f2], rfl, rfl, ⟨[.int .i64 x.f1], [.int .i64 x.f2], rfl, rfl, rfl⟩⟩
def rd_T166 (xs : List S166) (i : Int) : S166 := xs.getD i.toNat z166
theorem at_T166 {w : World} {A : Option Addr} {n : Nat} {xs : List S166} (h : Kd.C k166 w A n xs) (i : Int) (h0 : 0 ≤ i) (h1 : i < n) : ∃ ad , A = some ad ∧ w.cell? (ad.add (i.toNat * 3)) = some (.int .i64 (rd_T166 xs i).f0) ∧ w.cell? ⟨(ad.add (i.toNat * 3)).block, (ad.add (i.toNat * 3)).off + 1, none⟩ = some (.int .i64 (rd_T166 xs i).f1) ∧ w.cell? ⟨(ad.add (i.toNat * 3)).block, (ad.add (i.toNat * 3)).off + 2, none⟩ = some (.int .i64 (rd_T166 xs i).f2) := by
  obtain ⟨ad, c, e, _, hK, hc0⟩ := Kd.C_get h z166 i h0 h1
  have hc : ∀ j u, c[j]? = some u → w.cell? (ad.add (i.toNat * 3 + j)) = some u := hc0
  obtain rfl := k166_open hK
  exact ⟨ad, e, hc 0 _ rfl, by rw [← add_field _ _ 1 (by omega)]; exact hc 1 _ rfl, by rw [← add_field _ _ 2 (by omega)]; exact hc 2 _ rfl⟩
structure S141 where
  f0 : Int
  f1 : Int
  f2 : Int
def z141 : S141 := ⟨(0 : Int), (0 : Int), (0 : Int)⟩
def k141 : Kd S141 := Kd.iso (Kd.pair (Kd.int .i64) (Kd.pair (Kd.int .i64) (Kd.int .i64))) (fun x : S141 => (x.f0, x.f1, x.f2))
theorem k141_open {w : World} {x : S141} {cs : List Value} (h : k141.K w x cs) : cs = [.int .i64 x.f0, .int .i64 x.f1, .int .i64 x.f2] := by
  obtain ⟨_, _, rfl, rfl, ⟨_, _, rfl, rfl, rfl⟩⟩ := h
  exact rfl
theorem k141_openM {w : World} {base : Nat} {ok : Nat → Prop} {x : S141} {cs : List Value} (h : k141.M w base ok x cs) : cs = [.int .i64 x.f0, .int .i64 x.f1, .int .i64 x.f2] := by
  obtain ⟨_, _, rfl, rfl, ⟨_, _, rfl, rfl, rfl⟩⟩ := h
  exact rfl
theorem k141_mkM (w : World) (base : Nat) (ok : Nat → Prop) (x : S141)  : k141.M w base ok x [.int .i64 x.f0, .int .i64 x.f1, .int .i64 x.f2] := ⟨[.int .i64 x.f0], [.int .i64 x.f1, .int .i64 x.f2], rfl, rfl, ⟨[.int .i64 x.f1], [.int .i64 x.f2], rfl, rfl, rfl⟩⟩
def rd_T141 (xs : List S141) (i : Int) : S141 := xs.getD i.toNat z141
theorem at_T141 {w : World} {A : Option Addr} {n : Nat} {xs : List S141} (h : Kd.C k141 w A n xs) (i : Int) (h0 : 0 ≤ i) (h1 : i < n) : ∃ ad , A = some ad ∧ w.cell? (ad.add (i.toNat * 3)) = some (.int .i64 (rd_T141 xs i).f0) ∧ w.cell? ⟨(ad.add (i.toNat * 3)).block, (ad.add (i.toNat * 3)).off + 1, none⟩ = some (.int .i64 (rd_T141 xs i).f1) ∧ w.cell? ⟨(ad.add (i.toNat * 3)).block, (ad.add (i.toNat * 3)).off + 2, none⟩ = some (.int .i64 (rd_T141 xs i).f2) := by
  obtain ⟨ad, c, e, _, hK, hc0⟩ := Kd.C_get h z141 i h0 h1
  have hc : ∀ j u, c[j]? = some u → w.cell? (ad.add (i.toNat * 3 + j)) = some u := hc0
  obtain rfl := k141_open hK
  exact ⟨ad, e, hc 0 _ rfl, by rw [← add_field _ _ 1 (by omega)]; exact hc 1 _ rfl, by rw [← add_field _ _ 2 (by omega)]; exact hc 2 _ rfl⟩
structure S70 where
  f0 : Int
  f1 : (List Int)
def z70 : S70 := ⟨(0 : Int), ([] : List Int)⟩
def k70 : Kd S70 := Kd.iso (Kd.pair (Kd.int .i64) (Kd.slice 3 (Kd.int .i64))) (fun x : S70 => (x.f0, x.f1))
theorem k70_open {w : World} {x : S70} {cs : List Value} (h : k70.K w x cs) : ∃ A1 c1, cs = [.int .i64 x.f0, .slice A1 x.f1.length c1] ∧ x.f1.length ≤ c1 ∧ (Kd.int .i64).C w A1 x.f1.length x.f1 := by
  obtain ⟨_, _, rfl, rfl, ⟨A1, c1, rfl, l1, g1⟩⟩ := h
  exact ⟨A1, c1, rfl, l1, g1⟩
theorem k70_openM {w : World} {base : Nat} {ok : Nat → Prop} {x : S70} {cs : List Value} (h : k70.M w base ok x cs) : ∃ v1, cs = [.int .i64 x.f0, v1] ∧ (Kd.int .i64).R 3 w base ok v1 x.f1 := by
  obtain ⟨_, _, rfl, rfl, ⟨v1, rfl, g1⟩⟩ := h
  exact ⟨v1, rfl, g1⟩
theorem k70_mkM (w : World) (base : Nat) (ok : Nat → Prop) (x : S70) {v1 : Value} (g1 : (Kd.int .i64).R 3 w base ok v1 x.f1) : k70.M w base ok x [.int .i64 x.f0, v1] := ⟨[.int .i64 x.f0], [v1], rfl, rfl, ⟨v1, rfl, g1⟩⟩
structure S145 where
  f0 : Int
  f1 : Int
  f2 : (List S166)
  f3 : S70
def z145 : S145 := ⟨(0 : Int), (0 : Int), ([] : List S166), z70⟩
def k145 : Kd S145 := Kd.iso (Kd.pair (Kd.int .i64) (Kd.pair (Kd.int .i64) (Kd.pair (Kd.slice 166 k166) k70))) (fun x : S145 => (x.f0, x.f1, x.f2, x.f3))
theorem k145_open {w : World} {x : S145} {cs : List Value} (h : k145.K w x cs) : ∃ A2 c2 A4 c4, cs = [.int .i64 x.f0, .int .i64 x.f1, .slice A2 x.f2.length c2, .int .i64 x.f3.f0, .slice A4 x.f3.f1.length c4] ∧ x.f2.length ≤ c2 ∧ k166.C w A2 x.f2.length x.f2 ∧ x.f3.f1.length ≤ c4 ∧ (Kd.int .i64).C w A4 x.f3.f1.length x.f3.f1 := by
  obtain ⟨_, _, rfl, rfl, ⟨_, _, rfl, rfl, ⟨_, _, rfl, ⟨A2, c2, rfl, l2, g2⟩, s3⟩⟩⟩ := h
  obtain ⟨A4, c4, rfl, l4, g4⟩ := k70_open s3
  exact ⟨A2, c2, A4, c4, rfl, l2, g2, l4, g4⟩
theorem k145_openM {w : World} {base : Nat} {ok : Nat → Prop} {x : S145} {cs : List Value} (h : k145.M w base ok x cs) : ∃ v2 v4, cs = [.int .i64 x.f0, .int .i64 x.f1, v2, .int .i64 x.f3.f0, v4] ∧ k166.R 166 w base ok v2 x.f2 ∧ (Kd.int .i64).R 3 w base ok v4 x.f3.f1 := by
  obtain ⟨_, _, rfl, rfl, ⟨_, _, rfl, rfl, ⟨_, _, rfl, ⟨v2, rfl, g2⟩, s3⟩⟩⟩ := h
  obtain ⟨v4, rfl, g4⟩ := k70_openM s3
  exact ⟨v2, v4, rfl, g2, g4⟩
theorem k145_mkM (w : World) (base : Nat) (ok : Nat → Prop) (x : S145) {v2 : Value} (g2 : k166.R 166 w base ok v2 x.f2) {v4 : Value} (g4 : (Kd.int .i64).R 3 w base ok v4 x.f3.f1) : k145.M w base ok x [.int .i64 x.f0, .int .i64 x.f1, v2, .int .i64 x.f3.f0, v4] := ⟨[.int .i64 x.f0], [.int .i64 x.f1, v2, .int .i64 x.f3.f0, v4], rfl, rfl, ⟨[.int .i64 x.f1], [v2, .int .i64 x.f3.f0, v4], rfl, rfl, ⟨[v2], [.int .i64 x.f3.f0, v4], rfl, ⟨v2, rfl, g2⟩, (k70_mkM w base ok x.f3 g4)⟩⟩⟩
def rd_T145 (xs : List S145) (i : Int) : S145 := xs.getD i.toNat z145
theorem at_T145 {w : World} {A : Option Addr} {n : Nat} {xs : List S145} (h : Kd.C k145 w A n xs) (i : Int) (h0 : 0 ≤ i) (h1 : i < n) : ∃ ad A2 c2 A4 c4, A = some ad ∧ w.cell? (ad.add (i.toNat * 5)) = some (.int .i64 (rd_T145 xs i).f0) ∧ w.cell? ⟨(ad.add (i.toNat * 5)).block, (ad.add (i.toNat * 5)).off + 1, none⟩ = some (.int .i64 (rd_T145 xs i).f1) ∧ w.cell? ⟨(ad.add (i.toNat * 5)).block, (ad.add (i.toNat * 5)).off + 2, none⟩ = some (.slice A2 (rd_T145 xs i).f2.length c2) ∧ w.cell? ⟨(ad.add (i.toNat * 5)).block, (ad.add (i.toNat * 5)).off + 3, none⟩ = some (.int .i64 (rd_T145 xs i).f3.f0) ∧ w.cell? ⟨(ad.add (i.toNat * 5)).block, (ad.add (i.toNat * 5)).off + 4, none⟩ = some (.slice A4 (rd_T145 xs i).f3.f1.length c4) ∧ (rd_T145 xs i).f2.length ≤ c2 ∧ k166.C w A2 (rd_T145 xs i).f2.length (rd_T145 xs i).f2 ∧ (rd_T145 xs i).f3.f1.length ≤ c4 ∧ (Kd.int .i64).C w A4 (rd_T145 xs i).f3.f1.length (rd_T145 xs i).f3.f1 := by
  obtain ⟨ad, c, e, _, hK, hc0⟩ := Kd.C_get h z145 i h0 h1
  have hc : ∀ j u, c[j]? = some u → w.cell? (ad.add (i.toNat * 5 + j)) = some u := hc0
  obtain ⟨A2, c2, A4, c4, rfl, l2, g2, l4, g4⟩ := k145_open hK
  exact ⟨ad, A2, c2, A4, c4, e, hc 0 _ rfl, by rw [← add_field _ _ 1 (by omega)]; exact hc 1 _ rfl, by rw [← add_field _ _ 2 (by omega)]; exact hc 2 _ rfl, by rw [← add_field _ _ 3 (by omega)]; exact hc 3 _ rfl, by rw [← add_field _ _ 4 (by omega)]; exact hc 4 _ rfl, l2, g2, l4, g4⟩
end Go.Proofs.Ytopikhjcbcpiaaa.Q
end
section
namespace Go.Proofs.Ytopikhjcbcpiaaa.Q
open Go.RowKit Go.Proofs.YtopikhjcbcpiaaaW.PrintWords Go.Proofs.YtopikhjcbcpiaaaW.PrintLast Go.Proofs.YtopikhjcbcpiaaaW.PrintMore
theorem sA {α : Type} (l : List α) (i : Nat) (a : α) : l.toArray.setIfInBounds i a = (l.set i a).toArray := List.setIfInBounds_toArray _ _ _
theorem sB {α : Type} (l : List α) (a b : α) : (a :: l).set 0 b = b :: l := List.set_cons_zero ..
theorem sC {α : Type} (l : List α) (a b : α) (n : Nat) : (a :: l).set (n + 1) b = a :: l.set n b := List.set_cons_succ ..
theorem er {p : Prop} (h : p := by first | rfl | (simp [errW_none, errW_some] <;> rfl) | (simp [*, errW_none, errW_some] <;> rfl)) : p := h
theorem od {p : Prop} [Decidable p] (h : decide p = true := by first | (with_reducible assumption) | assumption) : p := of_decide_eq_true h
section
variable {w w1 w2 w' : World} {g g' : Nat} {o : Obj}
theorem nl_ (hg : g' = w'.heap.size) (b : Aside0 (w.heap[g]? = some o)) (f : w.heap[g]? = some o → w'.heap[g]? = some o := by intro h; (with_reducible repeat (first | refine blk_drewN ?_ _ | refine blk_drew ?_ | refine blk_alloc ?_ _)); exact h) : g ≠ g' := by rw [hg]; exact Nat.ne_of_lt (blk_lt (f b.out))
theorem ng_ (hg : g' = w'.heap.size) (b : Aside0 (w.heap[g]? = some o)) (f : w.heap[g]? = some o → w'.heap[g]? = some o := by intro h; (with_reducible repeat (first | refine blk_drewN ?_ _ | refine blk_drew ?_ | refine blk_alloc ?_ _)); exact h) : g' ≠ g := by rw [hg]; exact Nat.ne_of_gt (blk_lt (f b.out))
theorem bb (b : Aside0 (w.heap[g]? = some o)) (hb : Below w'.heap.size w' w2) (f : w.heap[g]? = some o → w'.heap[g]? = some o := by intro h; (with_reducible repeat (first | refine blk_drewN ?_ _ | refine blk_drew ?_ | refine blk_alloc ?_ _)); exact h) : Aside0 (w2.heap[g]? = some o) := ⟨blk_below (f b.out) hb⟩
theorem cs2_ {xa xb : Value} {t : TypeId} (h : Aside0 (w.heap[g]? = some (.cells #[xa, xb] t (0, 0)))) : w.cell? ⟨g, 0, none⟩ = some xa ∧ w.cell? ⟨g, 1, none⟩ = some xb ∧ w.frozen? ⟨g, 0, none⟩ = false ∧ w.frozen? ⟨g, 1, none⟩ = false := ⟨(blk_cell h.out 0).trans rfl, (blk_cell h.out 1).trans rfl, blk_frozen h.out 0, blk_frozen h.out 1⟩
theorem cs3_ {xa xb xc : Value} {t : TypeId} (h : Aside0 (w.heap[g]? = some (.cells #[xa, xb, xc] t (0, 0)))) : w.cell? ⟨g, 0, none⟩ = some xa ∧ w.cell? ⟨g, 1, none⟩ = some xb ∧ w.cell? ⟨g, 2, none⟩ = some xc ∧ w.frozen? ⟨g, 0, none⟩ = false ∧ w.frozen? ⟨g, 1, none⟩ = false ∧ w.frozen? ⟨g, 2, none⟩ = false := ⟨(blk_cell h.out 0).trans rfl, (blk_cell h.out 1).trans rfl, (blk_cell h.out 2).trans rfl, blk_frozen h.out 0, blk_frozen h.out 1, blk_frozen h.out 2⟩
theorem cs5_ {xa xb xc xd xe : Value} {t : TypeId} (h : Aside0 (w.heap[g]? = some (.cells #[xa, xb, xc, xd, xe] t (0, 0)))) : w.cell? ⟨g, 0, none⟩ = some xa ∧ w.cell? ⟨g, 1, none⟩ = some xb ∧ w.cell? ⟨g, 2, none⟩ = some xc ∧ w.cell? ⟨g, 3, none⟩ = some xd ∧ w.cell? ⟨g, 4, none⟩ = some xe ∧ w.frozen? ⟨g, 0, none⟩ = false ∧ w.frozen? ⟨g, 1, none⟩ = false ∧ w.frozen? ⟨g, 2, none⟩ = false ∧ w.frozen? ⟨g, 3, none⟩ = false ∧ w.frozen? ⟨g, 4, none⟩ = false := ⟨(blk_cell h.out 0).trans rfl, (blk_cell h.out 1).trans rfl, (blk_cell h.out 2).trans rfl, (blk_cell h.out 3).trans rfl, (blk_cell h.out 4).trans rfl, blk_frozen h.out 0, blk_frozen h.out 1, blk_frozen h.out 2, blk_frozen h.out 3, blk_frozen h.out 4⟩
theorem ox {v : Value} {a : Addr} {u : World} (b : Aside0 (Below u.heap.size u w)) (h : u.cell? a = some v) : w.cell? a = some v := (b.out.cell (World.block_lt_of_cell? u _ h)).trans h
theorem bf {t : TypeId} {cs : Array Value} (b : Aside0 (w.heap[g]? = some (.cells cs t (0, 0)))) (f : w.heap[g]? = some (.cells cs t (0, 0)) → w'.heap[g]? = some (.cells cs t (0, 0)) := by intro h; repeat (first | (with_reducible exact h) | (with_reducible first | refine blk_drewN ?_ _ | refine blk_drew ?_ | refine blk_alloc ?_ _) | refine blk_far ?_ (Aside0.out (by assumption)) _ | exact h)) : w'.heap[g]? = some (.cells cs t (0, 0)) := f b.out
theorem tb {B : Nat} {u : World} (b : Aside0 (Below B u w)) (f : Below B u w → Below B u w' := by intro h; repeat (first | (with_reducible first | exact h | apply below_alloc | apply pw_below_drewN | apply below_drew1 | refine below_set ?_ (Aside0.out (by assumption))) | exact h)) : Below B u w' := f b.out
theorem bs {u : World} (b : Aside0 (Below u.heap.size u w)) (hb : Below w'.heap.size w' w2) (f : Below u.heap.size u w → Below u.heap.size u w' := by intro h; repeat (first | (with_reducible first | exact h | apply below_alloc | apply pw_below_drewN | apply below_drew1 | refine below_set ?_ (Aside0.out (by assumption))) | exact h)) : Aside0 (Below u.heap.size u w2) := ⟨below_step (f b.out) hb⟩
theorem ge_ {u : World} (hg : g = w'.heap.size) (b : Aside0 (Below u.heap.size u w)) (f : Below u.heap.size u w → Below u.heap.size u w' := by intro h; repeat (first | (with_reducible first | exact h | apply below_alloc | apply pw_below_drewN | apply below_drew1 | refine below_set ?_ (Aside0.out (by assumption))) | exact h)) : u.heap.size ≤ g := by rw [hg]; exact below_size (f b.out)
theorem kr {α : Type} {d : Kd α} {e base : Nat} {ok : Nat → Prop} {v : Value} {xs : List α} (b : d.R e w base ok v xs) (f : d.R e w base ok v xs → d.R e w' base ok v xs := by intro h; (with_reducible repeat (first | apply Kd.R_alloc | apply Kd.R_drewN | apply Kd.R_drew)); exact h) : d.R e w' base ok v xs := f b
theorem rb {α : Type} {d : Kd α} {e base : Nat} {ok : Nat → Prop} {v : Value} {xs : List α} (b : Aside0 (d.R e w base ok v xs)) (hb : Below w'.heap.size w' w2) (f : d.R e w base ok v xs → d.R e w' base ok v xs := by intro h; (with_reducible repeat (first | apply Kd.R_alloc | apply Kd.R_drewN | apply Kd.R_drew)); exact h) : Aside0 (d.R e w2 base ok v xs) := ⟨Kd.R_below (f b.out) hb⟩
theorem kc {α : Type} {d : Kd α} {A : Option Addr} {n : Nat} {xs : List α} (r : Aside0 (d.C w A n xs)) (b : Aside0 (Below w.heap.size w w1)) (f : d.C w1 A n xs → d.C w' A n xs := by intro h; repeat (first | exact h | (with_reducible refine Kd.C_alloc ?_ _) | (with_reducible refine Kd.C_drewN ?_ _) | (with_reducible refine Kd.C_drew ?_))) : d.C w' A n xs := f (Kd.C_below r.out b.out)
end
section
variable {P : Program} {ops : Array Oper} {rest : List Oper} {o : Oper} {a : Act} {Q : Exit → Act → World → Prop} {W : World} {N : Tmp} {cs : Array Value} {t : TypeId}
theorem bx (h : ∀ g, g = W.heap.size → ∀ w1, w1.heap[g]? = some (.cells cs t (0, 0)) → Below W.heap.size W w1 → wpList P ops Q rest (a.put o.dst (.pointer (some ⟨g, 0, none⟩))) w1) (hd : o.dst = some N := by rfl) (hgd : o.guard = none := by rfl)
    (hrun : (execOp a.eval o).run P W = .ok (.value (.pointer (some ⟨W.heap.size, 0, none⟩))) (W.alloc (.cells cs t (0, 0))) := by first | (go_simp; done) | (go_simp; rfl)) : wpList P ops Q (o :: rest) a W := box_event hgd hd hrun h
theorem gL {oi : Oper} {w : World} (N : Tmp) {f : FuncId} {fn : Func} (hf : P.funcs[f]? = some fn) {ags : Array Operand} {ts : Array TypeId} (args : Array Value)
    (h : Calls P f args w fun e w' => ∃ v, e = .returned v ∧ wpList P ops Q rest (a.put (some N) v) w')
    (hd : oi.dst = some N := by rfl) (hg : oi.guard = none := by rfl) (hname : (fn.name == "runtime.NumGoroutine") = false := by kernel_rfl) (hb : fn.body.isSome = true := by rfl)
    (hop : oi.op = .call { callee := .value (.func f), args := ags, argTypes := ts } := by rfl)
    (hargs : ags.map a.eval = args := by (try simp only [List.map_toArray, List.map_cons, List.map_nil]); first | done | rfl | (simp only [List.length_drop, List.length_take]; rfl)) : wpList P ops Q (oi :: rest) a w := goesL_ (some N) hd hg hf hname hb args hop hargs h
theorem gS {oi : Oper} {w : World} {K : Act → World → Prop} {f : FuncId} {fn : Func} (hf : P.funcs[f]? = some fn) {ags : Array Operand} {ts : Array TypeId} (args : Array Value) {N : Option Tmp}
    (h : Calls P f args w fun e w' => ∃ v, e = .returned v ∧ K (a.put N v) w')
    (hN : oi.dst = N := by rfl) (hname : (fn.name == "runtime.NumGoroutine") = false := by kernel_rfl) (hb : fn.body.isSome = true := by rfl)
    (hw : Region.wanted oi (yielded ops a.tmps) = true := by rfl) (hop : oi.op = .call { callee := .value (.func f), args := ags, argTypes := ts } := by rfl)
    (hargs : ags.map a.eval = args := by (try simp only [List.map_toArray, List.map_cons, List.map_nil]); first | done | rfl | (simp only [List.length_drop, List.length_take]; rfl)) : if Region.wanted oi (yielded ops a.tmps) = true then Oper.wp P oi a w K Q else K (a.put N undef) w := goes_ hf hname hb args hw hN hop hargs h
end
section
variable {P : Program} {ops : Array Oper} {Q : Exit → Act → World → Prop} {md : Region.Mode} {S : World → Prop} {ds : List Nat} {oi : Oper} {fuel : Nat} {l l' : Array Bool} {a a' : Act} {w : World} {v : Value}
theorem pu (i : Nat) (N : Tmp) (h : wpAnyLast P md ops Q S ds fuel l' a' w)
    (hi : ops[i]? = some oi := by exact rfl) (hN : oi.dst = some N := by exact rfl) (_hl : l.setIfInBounds i true = l' := by simp only [sA, sB, sC]; rfl)
    (hc : anyB md ops l l' i = true := by first | exact any_of HT_.out (by kernel_rfl) | kernel_rfl)
    (hQ : ∀ c a w, Q (.panic c) (a.put oi.dst v) w → Q (.panic c) a w := by exact fun _ _ _ h => h)
    (hy : Yields P ops oi v a := by exact Or.inl ⟨by rfl, by intro w'; go_simp; with_reducible rfl⟩)
    (ha : a.put (some N) v = a' := by simp only [Act.put, sA, sB, sC, i64_w, i32_w]; rfl) : wpAnyLast P md ops Q S ds (fuel + 1) l a w := pure_ l' hi hN hc hQ hy ha h
theorem ta (i : Nat) (N : Tmp) (h : wpAnyLast P md ops Q S ds fuel l' a' w)
    (hi : ops[i]? = some oi := by exact rfl) (hN : oi.dst = some N := by exact rfl) (_hl : l.setIfInBounds i true = l' := by simp only [sA, sB, sC]; rfl)
    (hc : takeB md ops ds l l' i = true := by first | exact take_ofW HT_.out HW_.out (by kernel_rfl) | kernel_rfl)
    (hQ : ∀ c a w, Q (.panic c) (a.put oi.dst v) w → Q (.panic c) a w := by exact fun _ _ _ h => h)
    (hy : YieldsIf P ops S oi v a := by exact Or.inl ⟨by rfl, by intro w' hs; (repeat (obtain ⟨_, hs⟩ := hs)); go_simp; with_reducible rfl⟩)
    (hS : S w := by exact hHeld)
    (ha : a.put (some N) v = a' := by simp only [Act.put, sA, sB, sC, i64_w, i32_w]; rfl) : wpAnyLast P md ops Q S ds (fuel + 1) l a w := take_ l' hi hN hc hQ hy hS ha h
theorem nm (N : Tmp) (h : wpAnyLast P md ops Q S ds fuel l a' w) (ha : a.put (some N) v = a' := by simp only [Act.put, sA, sB, sC, i64_w, i32_w]; rfl) : wpAnyLast P md ops Q S ds fuel l (a.put (some N) v) w := norm_ ha h
theorem gd {rest : List Oper} {o : Oper} (N : Tmp) (_hN : o.dst = some N) (h : wpList P ops Q (o :: rest) a w) : wpList P ops Q (o :: rest) a w := h
end
end Go.Proofs.Ytopikhjcbcpiaaa.Q
end
namespace Go.Proofs.Ytopikhjcbcpiaaa.Q
open Go.RowKit Go.Proofs.YtopikhjcbcpiaaaW.PrintWords Go.Proofs.YtopikhjcbcpiaaaW.PrintLast Go.Proofs.YtopikhjcbcpiaaaW.PrintMore
attribute [local go_sem] max2_int min2_int max_two min_two max_three min_three max_four min_four   -- for this text's walks alone
set_option linter.unusedVariables false
set_option linter.unusedSimpArgs false
def laws_eqIntS.l0 : Nat → List Int → List Int → Int → Option (Bool)
 | 0, _, _, _ => none
 | k + 1, x0, x1, x5 => if x5 < (x0.length : Int) then (if 0 ≤ x5 then (if x5 < (x1.length : Int) then (if (rd x0 x5) = (rd x1 x5) then (laws_eqIntS.l0 k x0 x1 (wrap64 (x5 + 1))) else (some false)) else (none)) else (none)) else (some true)
def laws_eqIntS.f (k : Nat) (l0 : List Int) (l1 : List Int) : Option (Bool) := if (l0.length : Int) = (l1.length : Int) then (laws_eqIntS.l0 k l0 l1 0) else (some false)
theorem laws_eqIntS.mono_l : ∀ k, (∀ y0 y1 y2, LeO (laws_eqIntS.l0 k y0 y1 y2) (laws_eqIntS.l0 (k + 1) y0 y1 y2))
 | 0 => fun _ _ _ r h => by simp [laws_eqIntS.l0] at h
 | k + 1 => by
  have ih0 := laws_eqIntS.mono_l k
  ·intro y0 y1 y2
   unfold laws_eqIntS.l0
   repeat' first
   | (with_reducible exact ih0 _ _ _)
   | (with_reducible exact LeO.refl _)
   | (with_reducible exact LeO.none _)
   | (with_reducible refine LeO.ite ?_ ?_)
   | (with_reducible refine LeO.bind ?_ (fun _ => ?_))
   | exact ih0 _ _ _
   | exact LeO.none _
   | refine LeO.ite ?_ ?_
   | refine LeO.bind ?_ (fun _ => ?_)
theorem laws_eqIntS.mono : ∀ a0 a1 k, LeO (laws_eqIntS.f k a0 a1) (laws_eqIntS.f (k + 1) a0 a1) := by
 intro a0 a1 k
 have ih0 := laws_eqIntS.mono_l k
 unfold laws_eqIntS.f
 repeat' first
   | (with_reducible exact ih0 _ _ _)
   | (with_reducible exact LeO.refl _)
   | (with_reducible exact LeO.none _)
   | (with_reducible refine LeO.ite ?_ ?_)
   | (with_reducible refine LeO.bind ?_ (fun _ => ?_))
   | exact ih0 _ _ _
   | exact LeO.none _
   | refine LeO.ite ?_ ?_
   | refine LeO.bind ?_ (fun _ => ?_)
set_option maxHeartbeats 8000000 in
set_option maxRecDepth 100000 in
theorem laws_eqIntS.calls (k : Nat) (A0 : Option Addr) (c0 : Nat) (l0 : List Int) (A1 : Option Addr) (c1 : Nat) (l1 : List Int) (r : Bool) (w : World) (hr0 : Kd.C (Kd.int .i64) w A0 l0.length l0) (hc0 : l0.length ≤ c0) (hr1 : Kd.C (Kd.int .i64) w A1 l1.length l1) (hc1 : l1.length ≤ c1) (h : laws_eqIntS.f k l0 l1 = some r) :
  Calls Try.prog 14 #[.slice A0 l0.length c0, .slice A1 l1.length c1] w fun e w' => e = .returned (.bool r) ∧ Drawn0 w w' := by
 have HR0 := Aside0.mk hr0
 have HC0 := Aside0.mk hc0
 clear hr0 hc0
 have HR1 := Aside0.mk hr1
 have HC1 := Aside0.mk hc1
 clear hr1 hc1
 have H : (if (l0.length : Int) = (l1.length : Int) then (laws_eqIntS.l0 k l0 l1 0) else (some false)) = some r := h
 clear h
 by_cases c3 : (l0.length : Int) = (l1.length : Int)
 ·rw [if_pos c3] at H
  have c3b0 : ((l0.length : Int) == (l1.length : Int)) = true := beq_iff_eq.mpr c3
  have c3b1 : ((l0.length : Int) != (l1.length : Int)) = false := bne_eq_false_iff_eq.mpr c3
  have c3b2 : (l0.length == l1.length) = true := by first | simpa using c3 | (simp at c3 ⊢; omega)
  clear c3
  have H' := Aside0.mk H
  clear H
  go_enter Try.func14, Try.ntmps14
  go_wp2
  repeat (go_quiet (fail); try go_wp2)
  go_loopg [5] k (fun kq v5 w' => ∃ (x5_1 : Int), v5 = .int .i64 x5_1 ∧ Aside0 (laws_eqIntS.l0 kq l0 l1 x5_1 = some r) ∧ Aside0 (kq ≤ k) ∧ Drawn0 w w')
  case atStart => exact ⟨(0), (by first | rfl | (simp; done) | (simp [*]; done)), H', ⟨Nat.le_refl _⟩, by repeat (first | exact Drawn0.refl _ | apply Drawn0.step)⟩
  case round =>
   clear H'
   try clear c1
   try clear p2
   try clear c3
   try clear c3b0
   try clear c3b1
   try clear c3b2
   obtain ⟨x5_1, rfl, HA, HK1, ⟨m1, rfl⟩⟩ := hrel
   cases gk with
   | zero => exact absurd HA.out (by simp [laws_eqIntS.l0])
   | succ k1 =>
    have H := HA.out
    clear HA
    simp only [laws_eqIntS.l0] at H
    by_cases c4 : x5_1 < (l0.length : Int)
    ·rw [if_pos c4] at H
     have c4b0 := decide_eq_true c4
     clear c4
     by_cases c5 : 0 ≤ x5_1
     ·rw [if_pos c5] at H
      have c5b0 := decide_eq_true c5
      clear c5
      by_cases c6 : x5_1 < (l1.length : Int)
      ·rw [if_pos c6] at H
       have c6b0 := decide_eq_true c6
       clear c6
       by_cases c7 : (rd l0 x5_1) = (rd l1 x5_1)
       ·rw [if_pos c7] at H
        have c7b0 : ((rd l0 x5_1) == (rd l1 x5_1)) = true := beq_iff_eq.mpr c7
        have c7b1 : ((rd l0 x5_1) != (rd l1 x5_1)) = false := bne_eq_false_iff_eq.mpr c7
        clear c7
        have H' := Aside0.mk H
        clear H
        have p124 : 0 ≤ (x5_1 : Int) := od
        have q124 : x5_1 < (l0.length : Int) := od
        obtain ⟨ad124, e124, hx124_0⟩ := Kd.at_int HR0.out x5_1 p124 q124
        cases e124
        replace p124 := eq_true p124
        replace q124 := eq_true q124
        have p125 : 0 ≤ (x5_1 : Int) := od
        have q125 : x5_1 < (l1.length : Int) := od
        obtain ⟨ad125, e125, hx125_0⟩ := Kd.at_int HR1.out x5_1 p125 q125
        cases e125
        replace p125 := eq_true p125
        replace q125 := eq_true q125
        go_wp2
        repeat (go_quiet (fail); try go_wp2)
        go_roundg k1
        case measure => have := HK1.out; omega
        case rel => exact ⟨(wrap64 (x5_1 + 1)), (by first | rfl | (simp; done) | (simp [*]; done)), H', ⟨by have := HK1.out; omega⟩, by repeat (first | exact Drawn0.refl _ | apply Drawn0.step)⟩
       ·rw [if_neg c7] at H
        have c7b0 : ((rd l0 x5_1) == (rd l1 x5_1)) = false := beq_eq_false_iff_ne.mpr c7
        have c7b1 : ((rd l0 x5_1) != (rd l1 x5_1)) = true := bne_iff_ne.mpr c7
        obtain rfl := Option.some.inj H
        have p124 : 0 ≤ (x5_1 : Int) := od
        have q124 : x5_1 < (l0.length : Int) := od
        obtain ⟨ad124, e124, hx124_0⟩ := Kd.at_int HR0.out x5_1 p124 q124
        cases e124
        replace p124 := eq_true p124
        replace q124 := eq_true q124
        have p125 : 0 ≤ (x5_1 : Int) := od
        have q125 : x5_1 < (l1.length : Int) := od
        obtain ⟨ad125, e125, hx125_0⟩ := Kd.at_int HR1.out x5_1 p125 q125
        cases e125
        replace p125 := eq_true p125
        replace q125 := eq_true q125
        go_wp2
        repeat (go_quiet (fail); try go_wp2)
        go_ret
        exact ⟨by first | rfl | (simp; done) | (simp [*]; done), by repeat (first | exact Drawn0.refl _ | apply Drawn0.step)⟩
      ·rw [if_neg c6] at H
       exact absurd H (by simp)
     ·rw [if_neg c5] at H
      exact absurd H (by simp)
    ·rw [if_neg c4] at H
     have c4b0 := decide_eq_false c4
     clear c4
     obtain rfl := Option.some.inj H
     go_wp2
     repeat (go_quiet (fail); try go_wp2)
     go_ret
     exact ⟨by first | rfl | (simp; done) | (simp [*]; done), by repeat (first | exact Drawn0.refl _ | apply Drawn0.step)⟩
 ·rw [if_neg c3] at H
  have c3b0 : ((l0.length : Int) == (l1.length : Int)) = false := beq_eq_false_iff_ne.mpr c3
  have c3b1 : ((l0.length : Int) != (l1.length : Int)) = true := bne_iff_ne.mpr c3
  have c3b2 : (l0.length == l1.length) = false := by first | simpa using c3 | (simp at c3 ⊢; omega)
  obtain rfl := Option.some.inj H
  go_enter Try.func14, Try.ntmps14
  go_wp2
  repeat (go_quiet (fail); try go_wp2)
  go_ret
  exact ⟨by first | rfl | (simp; done) | (simp [*]; done), by repeat (first | exact Drawn0.refl _ | apply Drawn0.step)⟩
def laws_szWordS.f (l0 : List (S143)) (a1 : Int) : Option (Int) := if (wrap64 (a1 - (l0.length : Int))) < 0 then (some (-1)) else (some (wrap64 (a1 - (l0.length : Int))))
set_option maxHeartbeats 8000000 in
set_option maxRecDepth 100000 in
theorem laws_szWordS.calls (A0 : Option Addr) (c0 : Nat) (l0 : List (S143)) (a1 : Int) (r : Int) (w : World) (hr0 : Kd.C k143 w A0 l0.length l0) (hc0 : l0.length ≤ c0) (h : laws_szWordS.f l0 a1 = some r) :
  Calls Try.prog 20 #[.slice A0 l0.length c0, .int .i64 a1] w fun e w' => e = .returned (.int .i64 r) ∧ Drawn0 w w' := by
 have HR0 := Aside0.mk hr0
 have HC0 := Aside0.mk hc0
 clear hr0 hc0
 have H : (if (wrap64 (a1 - (l0.length : Int))) < 0 then (some (-1)) else (some (wrap64 (a1 - (l0.length : Int))))) = some r := h
 clear h
 by_cases c3 : (wrap64 (a1 - (l0.length : Int))) < 0
 ·rw [if_pos c3] at H
  have c3b0 := decide_eq_true c3
  clear c3
  obtain rfl := Option.some.inj H
  go_enter Try.func20, Try.ntmps20
  go_wp2
  go_ret
  exact ⟨by first | rfl | (simp; done) | (simp [*]; done), by repeat (first | exact Drawn0.refl _ | apply Drawn0.step)⟩
 ·rw [if_neg c3] at H
  have c3b0 := decide_eq_false c3
  clear c3
  obtain rfl := Option.some.inj H
  go_enter Try.func20, Try.ntmps20
  go_wp2
  go_ret
  exact ⟨by first | rfl | (simp; done) | (simp [*]; done), by repeat (first | exact Drawn0.refl _ | apply Drawn0.step)⟩
def laws_szIntS.f (l0 : List Int) (a1 : Int) : Option (Int) := if (wrap64 (a1 - (l0.length : Int))) < 0 then (some (-1)) else (some (wrap64 (a1 - (l0.length : Int))))
set_option maxHeartbeats 8000000 in
set_option maxRecDepth 100000 in
theorem laws_szIntS.calls (A0 : Option Addr) (c0 : Nat) (l0 : List Int) (a1 : Int) (r : Int) (w : World) (hr0 : Kd.C (Kd.int .i64) w A0 l0.length l0) (hc0 : l0.length ≤ c0) (h : laws_szIntS.f l0 a1 = some r) :
  Calls Try.prog 102 #[.slice A0 l0.length c0, .int .i64 a1] w fun e w' => e = .returned (.int .i64 r) ∧ Drawn0 w w' := by
 have HR0 := Aside0.mk hr0
 have HC0 := Aside0.mk hc0
 clear hr0 hc0
 have H : (if (wrap64 (a1 - (l0.length : Int))) < 0 then (some (-1)) else (some (wrap64 (a1 - (l0.length : Int))))) = some r := h
 clear h
 by_cases c3 : (wrap64 (a1 - (l0.length : Int))) < 0
 ·rw [if_pos c3] at H
  have c3b0 := decide_eq_true c3
  clear c3
  obtain rfl := Option.some.inj H
  go_enter Try.func102, Try.ntmps102
  go_wp2
  go_ret
  exact ⟨by first | rfl | (simp; done) | (simp [*]; done), by repeat (first | exact Drawn0.refl _ | apply Drawn0.step)⟩
 ·rw [if_neg c3] at H
  have c3b0 := decide_eq_false c3
  clear c3
  obtain rfl := Option.some.inj H
  go_enter Try.func102, Try.ntmps102
  go_wp2
  go_ret
  exact ⟨by first | rfl | (simp; done) | (simp [*]; done), by repeat (first | exact Drawn0.refl _ | apply Drawn0.step)⟩
def laws_szRes.f (a0_0 : Int) (l0_1 : List Int) (a1 : Int) : Option (Int) := (laws_szIntS.f l0_1 a1).bind fun t287 => (if t287 < 0 then (some (-1)) else (some t287))
set_option maxHeartbeats 8000000 in
set_option maxRecDepth 100000 in
theorem laws_szRes.calls (a0_0 : Int) (A0_1 : Option Addr) (c0_1 : Nat) (l0_1 : List Int) (a1 : Int) (r : Int) (w : World) (hr0_1 : Kd.C (Kd.int .i64) w A0_1 l0_1.length l0_1) (hc0_1 : l0_1.length ≤ c0_1) (h : laws_szRes.f a0_0 l0_1 a1 = some r) :
  Calls Try.prog 33 #[.agg #[.int .i64 a0_0, .slice A0_1 l0_1.length c0_1], .int .i64 a1] w fun e w' => e = .returned (.int .i64 r) ∧ Below w.heap.size w w' := by
 have hu62 := Try.underlying62
 have HR0_1 := Aside0.mk hr0_1
 have HC0_1 := Aside0.mk hc0_1
 clear hr0_1 hc0_1
 have HB := Aside0.mk (Below.refl w.heap.size w)
 have H : ((laws_szIntS.f l0_1 a1).bind fun t287 => (if t287 < 0 then (some (-1)) else (some t287))) = some r := h
 clear h
 replace H := Option.bind_eq_some_iff.mp H
 obtain ⟨t287, A30, H⟩ := H
 replace H : (if t287 < 0 then (some (-1)) else (some t287)) = some r := H
 have A3 := Aside0.mk A30
 clear A30
 by_cases c4 : t287 < 0
 ·rw [if_pos c4] at H
  have c4b0 := decide_eq_true c4
  clear c4
  obtain rfl := Option.some.inj H
  go_enter Try.func33, Try.ntmps33
  go_wp2_with (first | ((with_reducible refine gate_dst (N := 2) rfl ?_); refine bx (N := 2) (cs := #[.int .i64 a0_0, .slice A0_1 l0_1.length c0_1]) (t := 62) ?_; intro gb286 hg w5 hbox hb; have BK286 := Aside0.mk (hbox); have GE286 := Aside0.mk (ge_ hg HB); replace HB := bs HB hb; clear hb hbox hg; obtain ⟨hcz6_0, hcz6_1, hfz6_0, hfz6_1⟩ := cs2_ BK286) | ((with_reducible refine gate_callee (f := 102) rfl ?_); refine gL 8 Try.func102 #[.slice A0_1 l0_1.length c0_1, .int .i64 a1] ?_; (with_reducible refine (laws_szIntS.calls _ _ l0_1 a1 t287 _ ?side1 ?side2 A3.out).mono ?_); (case side1 => exact kc HR0_1 HB); (case side2 => exact HC0_1.out); rintro e w' ⟨rfl, ⟨nd, rfl⟩⟩; refine ⟨_, rfl, ?_⟩))
  go_ret
  exact ⟨er, tb HB⟩
 ·rw [if_neg c4] at H
  have c4b0 := decide_eq_false c4
  clear c4
  obtain rfl := Option.some.inj H
  go_enter Try.func33, Try.ntmps33
  go_wp2_with (first | ((with_reducible refine gate_dst (N := 2) rfl ?_); refine bx (N := 2) (cs := #[.int .i64 a0_0, .slice A0_1 l0_1.length c0_1]) (t := 62) ?_; intro gb286 hg w7 hbox hb; have BK286 := Aside0.mk (hbox); have GE286 := Aside0.mk (ge_ hg HB); replace HB := bs HB hb; clear hb hbox hg; obtain ⟨hcz8_0, hcz8_1, hfz8_0, hfz8_1⟩ := cs2_ BK286) | ((with_reducible refine gate_callee (f := 102) rfl ?_); refine gL 8 Try.func102 #[.slice A0_1 l0_1.length c0_1, .int .i64 a1] ?_; (with_reducible refine (laws_szIntS.calls _ _ l0_1 a1 t287 _ ?side1 ?side2 A3.out).mono ?_); (case side1 => exact kc HR0_1 HB); (case side2 => exact HC0_1.out); rintro e w' ⟨rfl, ⟨nd, rfl⟩⟩; refine ⟨_, rfl, ?_⟩))
  go_ret
  exact ⟨er, tb HB⟩
def laws_szEntryS.f (l0 : List (S168)) (a1 : Int) : Option (Int) := if (wrap64 (a1 - (l0.length : Int))) < 0 then (some (-1)) else (some (wrap64 (a1 - (l0.length : Int))))
set_option maxHeartbeats 8000000 in
set_option maxRecDepth 100000 in
theorem laws_szEntryS.calls (A0 : Option Addr) (c0 : Nat) (l0 : List (S168)) (a1 : Int) (r : Int) (w : World) (hr0 : Kd.C k168 w A0 l0.length l0) (hc0 : l0.length ≤ c0) (h : laws_szEntryS.f l0 a1 = some r) :
  Calls Try.prog 62 #[.slice A0 l0.length c0, .int .i64 a1] w fun e w' => e = .returned (.int .i64 r) ∧ Drawn0 w w' := by
 have HR0 := Aside0.mk hr0
 have HC0 := Aside0.mk hc0
 clear hr0 hc0
 have H : (if (wrap64 (a1 - (l0.length : Int))) < 0 then (some (-1)) else (some (wrap64 (a1 - (l0.length : Int))))) = some r := h
 clear h
 by_cases c3 : (wrap64 (a1 - (l0.length : Int))) < 0
 ·rw [if_pos c3] at H
  have c3b0 := decide_eq_true c3
  clear c3
  obtain rfl := Option.some.inj H
  go_enter Try.func62, Try.ntmps62
  go_wp2
  go_ret
  exact ⟨by first | rfl | (simp; done) | (simp [*]; done), by repeat (first | exact Drawn0.refl _ | apply Drawn0.step)⟩
 ·rw [if_neg c3] at H
  have c3b0 := decide_eq_false c3
  clear c3
  obtain rfl := Option.some.inj H
  go_enter Try.func62, Try.ntmps62
  go_wp2
  go_ret
  exact ⟨by first | rfl | (simp; done) | (simp [*]; done), by repeat (first | exact Drawn0.refl _ | apply Drawn0.step)⟩
def laws_szDesc.f (a0_0 : Int) (a0_1 : Int) (l0_2 : List (S168)) (a0_3 : Int) (l0_4 : List Int) (a1 : Int) : Option (Int) := (laws_szEntryS.f l0_2 a1).bind fun t289 => (if t289 < 0 then (some (-1)) else ((laws_szRes.f a0_3 l0_4 t289).bind fun t290 => (if t290 < 0 then (some (-1)) else (some t290))))
set_option maxHeartbeats 8000000 in
set_option maxRecDepth 100000 in
theorem laws_szDesc.calls (a0_0 : Int) (a0_1 : Int) (A0_2 : Option Addr) (c0_2 : Nat) (l0_2 : List (S168)) (a0_3 : Int) (A0_4 : Option Addr) (c0_4 : Nat) (l0_4 : List Int) (a1 : Int) (r : Int) (w : World) (hr0_2 : Kd.C k168 w A0_2 l0_2.length l0_2) (hc0_2 : l0_2.length ≤ c0_2) (hr0_4 : Kd.C (Kd.int .i64) w A0_4 l0_4.length l0_4) (hc0_4 : l0_4.length ≤ c0_4) (h : laws_szDesc.f a0_0 a0_1 l0_2 a0_3 l0_4 a1 = some r) :
  Calls Try.prog 95 #[.agg #[.int .i64 a0_0, .int .i64 a0_1, .slice A0_2 l0_2.length c0_2, .int .i64 a0_3, .slice A0_4 l0_4.length c0_4], .int .i64 a1] w fun e w' => e = .returned (.int .i64 r) ∧ Below w.heap.size w w' := by
 have hu138 := Try.underlying138
 have hu62 := Try.underlying62
 have HR0_2 := Aside0.mk hr0_2
 have HC0_2 := Aside0.mk hc0_2
 clear hr0_2 hc0_2
 have HR0_4 := Aside0.mk hr0_4
 have HC0_4 := Aside0.mk hc0_4
 clear hr0_4 hc0_4
 have HB := Aside0.mk (Below.refl w.heap.size w)
 have H : ((laws_szEntryS.f l0_2 a1).bind fun t289 => (if t289 < 0 then (some (-1)) else ((laws_szRes.f a0_3 l0_4 t289).bind fun t290 => (if t290 < 0 then (some (-1)) else (some t290))))) = some r := h
 clear h
 replace H := Option.bind_eq_some_iff.mp H
 obtain ⟨t289, A30, H⟩ := H
 replace H : (if t289 < 0 then (some (-1)) else ((laws_szRes.f a0_3 l0_4 t289).bind fun t290 => (if t290 < 0 then (some (-1)) else (some t290)))) = some r := H
 have A3 := Aside0.mk A30
 clear A30
 by_cases c4 : t289 < 0
 ·rw [if_pos c4] at H
  have c4b0 := decide_eq_true c4
  clear c4
  obtain rfl := Option.some.inj H
  go_enter Try.func95, Try.ntmps95
  go_wp2_with (first | ((with_reducible refine gate_dst (N := 2) rfl ?_); refine bx (N := 2) (cs := #[.int .i64 a0_0, .int .i64 a0_1, .slice A0_2 l0_2.length c0_2, .int .i64 a0_3, .slice A0_4 l0_4.length c0_4]) (t := 138) ?_; intro gb288 hg w5 hbox hb; have BK288 := Aside0.mk (hbox); have GE288 := Aside0.mk (ge_ hg HB); replace HB := bs HB hb; clear hb hbox hg; obtain ⟨hcz6_0, hcz6_1, hcz6_2, hcz6_3, hcz6_4, hfz6_0, hfz6_1, hfz6_2, hfz6_3, hfz6_4⟩ := cs5_ BK288) | ((with_reducible refine gate_callee (f := 62) rfl ?_); refine gL 8 Try.func62 #[.slice A0_2 l0_2.length c0_2, .int .i64 a1] ?_; (with_reducible refine (laws_szEntryS.calls _ _ l0_2 a1 t289 _ ?side1 ?side2 A3.out).mono ?_); (case side1 => exact kc HR0_2 HB); (case side2 => exact HC0_2.out); rintro e w' ⟨rfl, ⟨nd, rfl⟩⟩; refine ⟨_, rfl, ?_⟩))
  go_ret
  exact ⟨er, tb HB⟩
 ·rw [if_neg c4] at H
  have c4b0 := decide_eq_false c4
  clear c4
  replace H := Option.bind_eq_some_iff.mp H
  obtain ⟨t290, A70, H⟩ := H
  replace H : (if t290 < 0 then (some (-1)) else (some t290)) = some r := H
  have A7 := Aside0.mk A70
  clear A70
  by_cases c8 : t290 < 0
  ·rw [if_pos c8] at H
   have c8b0 := decide_eq_true c8
   clear c8
   obtain rfl := Option.some.inj H
   go_enter Try.func95, Try.ntmps95
   go_wp2_with (first | ((with_reducible refine gate_dst (N := 2) rfl ?_); refine bx (N := 2) (cs := #[.int .i64 a0_0, .int .i64 a0_1, .slice A0_2 l0_2.length c0_2, .int .i64 a0_3, .slice A0_4 l0_4.length c0_4]) (t := 138) ?_; intro gb288 hg w9 hbox hb; have BK288 := Aside0.mk (hbox); have GE288 := Aside0.mk (ge_ hg HB); replace HB := bs HB hb; clear hb hbox hg; obtain ⟨hcz10_0, hcz10_1, hcz10_2, hcz10_3, hcz10_4, hfz10_0, hfz10_1, hfz10_2, hfz10_3, hfz10_4⟩ := cs5_ BK288) | ((with_reducible refine gate_callee (f := 62) rfl ?_); refine gL 8 Try.func62 #[.slice A0_2 l0_2.length c0_2, .int .i64 a1] ?_; (with_reducible refine (laws_szEntryS.calls _ _ l0_2 a1 t289 _ ?side1 ?side2 A3.out).mono ?_); (case side1 => exact kc HR0_2 HB); (case side2 => exact HC0_2.out); rintro e w' ⟨rfl, ⟨nd, rfl⟩⟩; refine ⟨_, rfl, ?_⟩) | ((with_reducible refine gate_callee (f := 33) rfl ?_); refine gL 14 Try.func33 #[.agg #[.int .i64 a0_3, .slice A0_4 l0_4.length c0_4], .int .i64 t289] ?_; (with_reducible refine (laws_szRes.calls a0_3 _ _ l0_4 t289 t290 _ ?side1 ?side2 A7.out).mono ?_); (case side1 => repeat (first | exact (Kd.C_below HR0_4.out (tb HB)) | (with_reducible refine Kd.C_alloc ?_ _) | (with_reducible refine Kd.C_drewN ?_ _) | (with_reducible refine Kd.C_drew ?_))); (case side2 => exact HC0_4.out); rintro e w11 ⟨rfl, hb⟩; refine ⟨_, rfl, ?_⟩; replace BK288 := bb BK288 hb; replace HB := bs HB hb; (try clear hb); (try clear hb2); (try clear hk); (try clear hi)))
   go_ret
   exact ⟨er, tb HB⟩
  ·rw [if_neg c8] at H
   have c8b0 := decide_eq_false c8
   clear c8
   obtain rfl := Option.some.inj H
   go_enter Try.func95, Try.ntmps95
   go_wp2_with (first | ((with_reducible refine gate_dst (N := 2) rfl ?_); refine bx (N := 2) (cs := #[.int .i64 a0_0, .int .i64 a0_1, .slice A0_2 l0_2.length c0_2, .int .i64 a0_3, .slice A0_4 l0_4.length c0_4]) (t := 138) ?_; intro gb288 hg w12 hbox hb; have BK288 := Aside0.mk (hbox); have GE288 := Aside0.mk (ge_ hg HB); replace HB := bs HB hb; clear hb hbox hg; obtain ⟨hcz13_0, hcz13_1, hcz13_2, hcz13_3, hcz13_4, hfz13_0, hfz13_1, hfz13_2, hfz13_3, hfz13_4⟩ := cs5_ BK288) | ((with_reducible refine gate_callee (f := 62) rfl ?_); refine gL 8 Try.func62 #[.slice A0_2 l0_2.length c0_2, .int .i64 a1] ?_; (with_reducible refine (laws_szEntryS.calls _ _ l0_2 a1 t289 _ ?side1 ?side2 A3.out).mono ?_); (case side1 => exact kc HR0_2 HB); (case side2 => exact HC0_2.out); rintro e w' ⟨rfl, ⟨nd, rfl⟩⟩; refine ⟨_, rfl, ?_⟩) | ((with_reducible refine gate_callee (f := 33) rfl ?_); refine gL 14 Try.func33 #[.agg #[.int .i64 a0_3, .slice A0_4 l0_4.length c0_4], .int .i64 t289] ?_; (with_reducible refine (laws_szRes.calls a0_3 _ _ l0_4 t289 t290 _ ?side1 ?side2 A7.out).mono ?_); (case side1 => repeat (first | exact (Kd.C_below HR0_4.out (tb HB)) | (with_reducible refine Kd.C_alloc ?_ _) | (with_reducible refine Kd.C_drewN ?_ _) | (with_reducible refine Kd.C_drew ?_))); (case side2 => exact HC0_4.out); rintro e w14 ⟨rfl, hb⟩; refine ⟨_, rfl, ?_⟩; replace BK288 := bb BK288 hb; replace HB := bs HB hb; (try clear hb); (try clear hb2); (try clear hk); (try clear hi)))
   go_ret
   exact ⟨er, tb HB⟩
def laws_szDescS.l0 : Nat → List (S138) → Int → Int → Option (Int)
 | 0, _, _, _ => none
 | k + 1, x0, x1, x5 => if x5 < (x0.length : Int) then (if 0 ≤ x5 then ((laws_szDesc.f ((rd_T138 x0 x5).f0) ((rd_T138 x0 x5).f1) ((rd_T138 x0 x5).f2) ((rd_T138 x0 x5).f3.f0) ((rd_T138 x0 x5).f3.f1) x1).bind fun t292 => (if t292 < 0 then (some (-1)) else (laws_szDescS.l0 k x0 t292 (wrap64 (x5 + 1))))) else (none)) else (some x1)
def laws_szDescS.f (k : Nat) (l0 : List (S138)) (a1 : Int) : Option (Int) := if (wrap64 (a1 - (l0.length : Int))) < 0 then (some (-1)) else (laws_szDescS.l0 k l0 (wrap64 (a1 - (l0.length : Int))) 0)
theorem laws_szDescS.mono_l : ∀ k, (∀ y0 y1 y2, LeO (laws_szDescS.l0 k y0 y1 y2) (laws_szDescS.l0 (k + 1) y0 y1 y2))
 | 0 => fun _ _ _ r h => by simp [laws_szDescS.l0] at h
 | k + 1 => by
  have ih0 := laws_szDescS.mono_l k
  ·intro y0 y1 y2
   unfold laws_szDescS.l0
   repeat' first
   | (with_reducible exact ih0 _ _ _)
   | (with_reducible exact LeO.refl _)
   | (with_reducible exact LeO.none _)
   | (with_reducible refine LeO.ite ?_ ?_)
   | (with_reducible refine LeO.bind ?_ (fun _ => ?_))
   | exact ih0 _ _ _
   | exact LeO.none _
   | refine LeO.ite ?_ ?_
   | refine LeO.bind ?_ (fun _ => ?_)
theorem laws_szDescS.mono : ∀ a0 a1 k, LeO (laws_szDescS.f k a0 a1) (laws_szDescS.f (k + 1) a0 a1) := by
 intro a0 a1 k
 have ih0 := laws_szDescS.mono_l k
 unfold laws_szDescS.f
 repeat' first
   | (with_reducible exact ih0 _ _ _)
   | (with_reducible exact LeO.refl _)
   | (with_reducible exact LeO.none _)
   | (with_reducible refine LeO.ite ?_ ?_)
   | (with_reducible refine LeO.bind ?_ (fun _ => ?_))
   | exact ih0 _ _ _
   | exact LeO.none _
   | refine LeO.ite ?_ ?_
   | refine LeO.bind ?_ (fun _ => ?_)
set_option maxHeartbeats 8000000 in
set_option maxRecDepth 100000 in
theorem laws_szDescS.calls (k : Nat) (A0 : Option Addr) (c0 : Nat) (l0 : List (S138)) (a1 : Int) (r : Int) (w : World) (hr0 : Kd.C k138 w A0 l0.length l0) (hc0 : l0.length ≤ c0) (h : laws_szDescS.f k l0 a1 = some r) :
  Calls Try.prog 21 #[.slice A0 l0.length c0, .int .i64 a1] w fun e w' => e = .returned (.int .i64 r) ∧ Below w.heap.size w w' := by
 have hu138 := Try.underlying138
 have HR0 := Aside0.mk hr0
 have HC0 := Aside0.mk hc0
 clear hr0 hc0
 have HB := Aside0.mk (Below.refl w.heap.size w)
 have H : (if (wrap64 (a1 - (l0.length : Int))) < 0 then (some (-1)) else (laws_szDescS.l0 k l0 (wrap64 (a1 - (l0.length : Int))) 0)) = some r := h
 clear h
 by_cases c3 : (wrap64 (a1 - (l0.length : Int))) < 0
 ·rw [if_pos c3] at H
  have c3b0 := decide_eq_true c3
  clear c3
  obtain rfl := Option.some.inj H
  go_enter Try.func21, Try.ntmps21
  go_wp2
  go_ret
  exact ⟨er, tb HB⟩
 ·rw [if_neg c3] at H
  have c3b0 := decide_eq_false c3
  clear c3
  have H' := Aside0.mk H
  clear H
  go_enter Try.func21, Try.ntmps21
  go_wp2
  go_loopg [1, 5] k (fun kq v1 v5 w' => ∃ (x1_1 : Int) (x5_1 : Int), v1 = .int .i64 x1_1 ∧ v5 = .int .i64 x5_1 ∧ Aside0 (laws_szDescS.l0 kq l0 x1_1 x5_1 = some r) ∧ Aside0 (kq ≤ k) ∧ Aside0 (Below w.heap.size w w'))
  case atStart => exact ⟨(wrap64 (a1 - (l0.length : Int))), (0), (by first | rfl | (simp; done) | (simp [*]; done)), (by first | rfl | (simp; done) | (simp [*]; done)), H', ⟨Nat.le_refl _⟩, ⟨tb HB⟩⟩
  case round =>
   clear H'
   try clear c2
   try clear p2
   try clear c3
   try clear c3b0
   obtain ⟨x1_1, x5_1, rfl, rfl, HA, HK1, HB⟩ := hrel
   cases gk with
   | zero => exact absurd HA.out (by simp [laws_szDescS.l0])
   | succ k1 =>
    have H := HA.out
    clear HA
    simp only [laws_szDescS.l0] at H
    by_cases c4 : x5_1 < (l0.length : Int)
    ·rw [if_pos c4] at H
     have c4b0 := decide_eq_true c4
     clear c4
     by_cases c5 : 0 ≤ x5_1
     ·rw [if_pos c5] at H
      have c5b0 := decide_eq_true c5
      clear c5
      replace H := Option.bind_eq_some_iff.mp H
      obtain ⟨t292, A60, H⟩ := H
      replace H : (if t292 < 0 then (some (-1)) else (laws_szDescS.l0 k1 l0 t292 (wrap64 (x5_1 + 1)))) = some r := H
      have A6 := Aside0.mk A60
      clear A60
      by_cases c7 : t292 < 0
      ·rw [if_pos c7] at H
       have c7b0 := decide_eq_true c7
       clear c7
       obtain rfl := Option.some.inj H
       have p291 : 0 ≤ (x5_1 : Int) := od
       have q291 : x5_1 < (l0.length : Int) := od
       obtain ⟨ad291, A291_2, c291_2, A291_4, c291_4, e291, hx291_0, hx291_1, hx291_2, hx291_3, hx291_4, hl291_2, hi291_2, hl291_4, hi291_4⟩ := at_T138 HR0.out x5_1 p291 q291
       cases e291
       replace hx291_0 := ox HB hx291_0
       replace hx291_1 := ox HB hx291_1
       replace hx291_2 := ox HB hx291_2
       replace hx291_3 := ox HB hx291_3
       replace hx291_4 := ox HB hx291_4
       have HR291_2 := Aside0.mk hi291_2
       have HC291_2 := Aside0.mk hl291_2
       clear hi291_2 hl291_2
       have HR291_4 := Aside0.mk hi291_4
       have HC291_4 := Aside0.mk hl291_4
       clear hi291_4 hl291_4
       replace p291 := eq_true p291
       replace q291 := eq_true q291
       go_wp2_with (first | ((with_reducible refine gate_callee (f := 95) rfl ?_); refine gL 23 Try.func95 #[.agg #[.int .i64 ((rd_T138 l0 x5_1).f0), .int .i64 ((rd_T138 l0 x5_1).f1), .slice A291_2 ((rd_T138 l0 x5_1).f2).length c291_2, .int .i64 ((rd_T138 l0 x5_1).f3.f0), .slice A291_4 ((rd_T138 l0 x5_1).f3.f1).length c291_4], .int .i64 x1_1] ?_; (with_reducible refine (laws_szDesc.calls ((rd_T138 l0 x5_1).f0) ((rd_T138 l0 x5_1).f1) _ _ ((rd_T138 l0 x5_1).f2) ((rd_T138 l0 x5_1).f3.f0) _ _ ((rd_T138 l0 x5_1).f3.f1) x1_1 t292 _ ?side1 ?side2 ?side3 ?side4 A6.out).mono ?_); (case side1 => exact kc HR291_2 HB); (case side2 => exact HC291_2.out); (case side3 => exact kc HR291_4 HB); (case side4 => exact HC291_4.out); rintro e w8 ⟨rfl, hb⟩; refine ⟨_, rfl, ?_⟩; replace HB := bs HB hb; (try clear hb); (try clear hb2); (try clear hk); (try clear hi)))
       go_ret
       exact ⟨er, tb HB⟩
      ·rw [if_neg c7] at H
       have c7b0 := decide_eq_false c7
       clear c7
       have H' := Aside0.mk H
       clear H
       have p291 : 0 ≤ (x5_1 : Int) := od
       have q291 : x5_1 < (l0.length : Int) := od
       obtain ⟨ad291, A291_2, c291_2, A291_4, c291_4, e291, hx291_0, hx291_1, hx291_2, hx291_3, hx291_4, hl291_2, hi291_2, hl291_4, hi291_4⟩ := at_T138 HR0.out x5_1 p291 q291
       cases e291
       replace hx291_0 := ox HB hx291_0
       replace hx291_1 := ox HB hx291_1
       replace hx291_2 := ox HB hx291_2
       replace hx291_3 := ox HB hx291_3
       replace hx291_4 := ox HB hx291_4
       have HR291_2 := Aside0.mk hi291_2
       have HC291_2 := Aside0.mk hl291_2
       clear hi291_2 hl291_2
       have HR291_4 := Aside0.mk hi291_4
       have HC291_4 := Aside0.mk hl291_4
       clear hi291_4 hl291_4
       replace p291 := eq_true p291
       replace q291 := eq_true q291
       go_wp2_with (first | ((with_reducible refine gate_callee (f := 95) rfl ?_); refine gL 23 Try.func95 #[.agg #[.int .i64 ((rd_T138 l0 x5_1).f0), .int .i64 ((rd_T138 l0 x5_1).f1), .slice A291_2 ((rd_T138 l0 x5_1).f2).length c291_2, .int .i64 ((rd_T138 l0 x5_1).f3.f0), .slice A291_4 ((rd_T138 l0 x5_1).f3.f1).length c291_4], .int .i64 x1_1] ?_; (with_reducible refine (laws_szDesc.calls ((rd_T138 l0 x5_1).f0) ((rd_T138 l0 x5_1).f1) _ _ ((rd_T138 l0 x5_1).f2) ((rd_T138 l0 x5_1).f3.f0) _ _ ((rd_T138 l0 x5_1).f3.f1) x1_1 t292 _ ?side1 ?side2 ?side3 ?side4 A6.out).mono ?_); (case side1 => exact kc HR291_2 HB); (case side2 => exact HC291_2.out); (case side3 => exact kc HR291_4 HB); (case side4 => exact HC291_4.out); rintro e w9 ⟨rfl, hb⟩; refine ⟨_, rfl, ?_⟩; replace HB := bs HB hb; (try clear hb); (try clear hb2); (try clear hk); (try clear hi)))
       go_roundg k1
       case measure => have := HK1.out; omega
       case rel => exact ⟨(t292), (wrap64 (x5_1 + 1)), (by first | rfl | (simp; done) | (simp [*]; done)), (by first | rfl | (simp; done) | (simp [*]; done)), H', ⟨by have := HK1.out; omega⟩, ⟨tb HB⟩⟩
     ·rw [if_neg c5] at H
      exact absurd H (by simp)
    ·rw [if_neg c4] at H
     have c4b0 := decide_eq_false c4
     clear c4
     obtain rfl := Option.some.inj H
     go_wp2
     go_ret
     exact ⟨er, tb HB⟩
def spec_l1In.f (a0 : Int) (a1 : Int) (a2 : Int) : Option (Bool) := if a0 ≥ a1 then (some (decide (a0 ≤ a2))) else (some false)
set_option maxHeartbeats 8000000 in
set_option maxRecDepth 100000 in
theorem spec_l1In.calls (a0 : Int) (a1 : Int) (a2 : Int) (r : Bool) (w : World) (h : spec_l1In.f a0 a1 a2 = some r) :
  Calls Try.prog 79 #[.int .i64 a0, .int .i64 a1, .int .i64 a2] w fun e w' => e = .returned (.bool r) ∧ Drawn0 w w' := by
 have H : (if a0 ≥ a1 then (some (decide (a0 ≤ a2))) else (some false)) = some r := h
 clear h
 by_cases c4 : a0 ≥ a1
 ·rw [if_pos c4] at H
  have c4b0 := decide_eq_true c4
  clear c4
  obtain rfl := Option.some.inj H
  go_enter Try.func79, Try.ntmps79
  go_wp2
  go_ret
  exact ⟨by first | rfl | (simp; done) | (simp [*]; done), by repeat (first | exact Drawn0.refl _ | apply Drawn0.step)⟩
 ·rw [if_neg c4] at H
  have c4b0 := decide_eq_false c4
  clear c4
  obtain rfl := Option.some.inj H
  go_enter Try.func79, Try.ntmps79
  go_wp2
  go_ret
  exact ⟨by first | rfl | (simp; done) | (simp [*]; done), by repeat (first | exact Drawn0.refl _ | apply Drawn0.step)⟩
def spec_Entries.l0 : Nat → Int → Int → Int → Int → List (S166) → Int → List Int → Option (Int × Int × Int × Bool)
 | 0, _, _, _, _, _, _, _ => none
 | k + 1, x1, x6, x294000, x294001, x294002, x294003, x294004 => if x6 < (x294002.length : Int) then (if 0 ≤ x6 then (if ((rd_T166 x294002 x6).f0) = x1 then (some ((rd_T166 x294002 x6).f0, (rd_T166 x294002 x6).f1, (rd_T166 x294002 x6).f2, true)) else (spec_Entries.l0 k x1 (wrap64 (x6 + 1)) x294000 x294001 x294002 x294003 x294004)) else (none)) else (some (0, 0, 0, false))
def spec_Entries.f (k : Nat) (a0_0 : Int) (a0_1 : Int) (l0_2 : List (S166)) (a0_3 : Int) (l0_4 : List Int) (a1 : Int) : Option (Int × Int × Int × Bool) := spec_Entries.l0 k a1 0 a0_0 a0_1 l0_2 a0_3 l0_4
theorem spec_Entries.mono_l : ∀ k, (∀ y0 y1 y2 y3 y4 y5 y6, LeO (spec_Entries.l0 k y0 y1 y2 y3 y4 y5 y6) (spec_Entries.l0 (k + 1) y0 y1 y2 y3 y4 y5 y6))
 | 0 => fun _ _ _ _ _ _ _ r h => by simp [spec_Entries.l0] at h
 | k + 1 => by
  have ih0 := spec_Entries.mono_l k
  ·intro y0 y1 y2 y3 y4 y5 y6
   unfold spec_Entries.l0
   repeat' first
   | (with_reducible exact ih0 _ _ _ _ _ _ _)
   | (with_reducible exact LeO.refl _)
   | (with_reducible exact LeO.none _)
   | (with_reducible refine LeO.ite ?_ ?_)
   | (with_reducible refine LeO.bind ?_ (fun _ => ?_))
   | exact ih0 _ _ _ _ _ _ _
   | exact LeO.none _
   | refine LeO.ite ?_ ?_
   | refine LeO.bind ?_ (fun _ => ?_)
theorem spec_Entries.mono : ∀ a0 a1 a2 a3 a4 a5 k, LeO (spec_Entries.f k a0 a1 a2 a3 a4 a5) (spec_Entries.f (k + 1) a0 a1 a2 a3 a4 a5) := by
 intro a0 a1 a2 a3 a4 a5 k
 have ih0 := spec_Entries.mono_l k
 unfold spec_Entries.f
 repeat' first
   | (with_reducible exact ih0 _ _ _ _ _ _ _)
   | (with_reducible exact LeO.refl _)
   | (with_reducible exact LeO.none _)
   | (with_reducible refine LeO.ite ?_ ?_)
   | (with_reducible refine LeO.bind ?_ (fun _ => ?_))
   | exact ih0 _ _ _ _ _ _ _
   | exact LeO.none _
   | refine LeO.ite ?_ ?_
   | refine LeO.bind ?_ (fun _ => ?_)
set_option maxHeartbeats 8000000 in
set_option maxRecDepth 100000 in
theorem spec_Entries.calls (k : Nat) (a0_0 : Int) (a0_1 : Int) (A0_2 : Option Addr) (c0_2 : Nat) (l0_2 : List (S166)) (a0_3 : Int) (A0_4 : Option Addr) (c0_4 : Nat) (l0_4 : List Int) (a1 : Int) (r1 : Int) (r2 : Int) (r3 : Int) (r4 : Bool) (w : World) (hr0_2 : Kd.C k166 w A0_2 l0_2.length l0_2) (hc0_2 : l0_2.length ≤ c0_2) (hr0_4 : Kd.C (Kd.int .i64) w A0_4 l0_4.length l0_4) (hc0_4 : l0_4.length ≤ c0_4) (h : spec_Entries.f k a0_0 a0_1 l0_2 a0_3 l0_4 a1 = some (r1, r2, r3, r4)) :
  Calls Try.prog 156 #[.agg #[.int .i64 a0_0, .int .i64 a0_1, .slice A0_2 l0_2.length c0_2, .int .i64 a0_3, .slice A0_4 l0_4.length c0_4], .int .i64 a1] w fun e w' => e = .returned (.tuple #[.agg #[.int .i64 r1, .int .i64 r2, .int .i64 r3], .bool r4]) ∧ Below w.heap.size w w' := by
 have hu145 := Try.underlying145
 have hu166 := Try.underlying166
 have HR0_2 := Aside0.mk hr0_2
 have HC0_2 := Aside0.mk hc0_2
 clear hr0_2 hc0_2
 have HR0_4 := Aside0.mk hr0_4
 have HC0_4 := Aside0.mk hc0_4
 clear hr0_4 hc0_4
 have HB := Aside0.mk (Below.refl w.heap.size w)
 have H : (spec_Entries.l0 k a1 0 a0_0 a0_1 l0_2 a0_3 l0_4) = some (r1, r2, r3, r4) := h
 clear h
 have H' := Aside0.mk H
 clear H
 go_enter Try.func156, Try.ntmps156
 go_wp2_with (first | ((with_reducible refine gate_dst (N := 2) rfl ?_); refine bx (N := 2) (cs := #[.int .i64 a0_0, .int .i64 a0_1, .slice A0_2 l0_2.length c0_2, .int .i64 a0_3, .slice A0_4 l0_4.length c0_4]) (t := 145) ?_; intro gb293 hg w3 hbox hb; have BK293 := Aside0.mk (hbox); have GE293 := Aside0.mk (ge_ hg HB); replace HB := bs HB hb; clear hb hbox hg) | ((with_reducible refine gate_dst (N := 4) rfl ?_); refine bx (N := 4) (cs := #[.int .i64 0, .int .i64 0, .int .i64 0]) (t := 166) ?_; intro gb294 hg w4 hbox hb; have BK294 := Aside0.mk (hbox); have GE294 := Aside0.mk (ge_ hg HB); replace HB := bs HB hb; have NB293_294 := Aside0.mk (nl_ hg BK293); have NB294_293 := Aside0.mk (ng_ hg BK293); replace BK293 := bb BK293 hb; clear hb hbox hg))
 go_loopg [6] k (fun kq v6 w' => ∃ (x6_1 : Int) (x295000_1 : Int) (x295001_1 : Int) (x295002_1 : Int), v6 = .int .i64 x6_1 ∧ Aside0 (spec_Entries.l0 kq a1 x6_1 a0_0 a0_1 l0_2 a0_3 l0_4 = some (r1, r2, r3, r4)) ∧ Aside0 (kq ≤ k) ∧ Aside0 (w'.heap[gb293]? = some (.cells #[.int .i64 a0_0, .int .i64 a0_1, (.slice A0_2 l0_2.length c0_2), .int .i64 a0_3, (.slice A0_4 l0_4.length c0_4)] 145 (0, 0))) ∧ Aside0 (w'.heap[gb294]? = some (.cells #[.int .i64 x295000_1, .int .i64 x295001_1, .int .i64 x295002_1] 166 (0, 0))) ∧ Aside0 (Below w.heap.size w w'))
 case atStart => exact ⟨(0), (0), (0), (0), (by first | rfl | (simp; done) | (simp [*]; done)), H', ⟨Nat.le_refl _⟩, ⟨by (with_reducible repeat (first | refine blk_drewN ?_ _ | refine blk_drew ?_ | refine blk_alloc ?_ _)); exact BK293.out⟩, ⟨by (with_reducible repeat (first | refine blk_drewN ?_ _ | refine blk_drew ?_ | refine blk_alloc ?_ _)); exact BK294.out⟩, ⟨tb HB⟩⟩
 case round =>
  clear H'
  try clear c1
  try clear p2
  obtain ⟨x6_1, x295000_1, x295001_1, x295002_1, rfl, HA, HK1, BK293, BK294, HB⟩ := hrel
  cases gk with
  | zero => exact absurd HA.out (by simp [spec_Entries.l0])
  | succ k1 =>
   have H := HA.out
   clear HA
   simp only [spec_Entries.l0] at H
   by_cases c5 : x6_1 < (l0_2.length : Int)
   ·rw [if_pos c5] at H
    have c5b0 := decide_eq_true c5
    clear c5
    by_cases c6 : 0 ≤ x6_1
    ·rw [if_pos c6] at H
     have c6b0 := decide_eq_true c6
     clear c6
     by_cases c7 : ((rd_T166 l0_2 x6_1).f0) = a1
     ·rw [if_pos c7] at H
      have c7b0 : (((rd_T166 l0_2 x6_1).f0) == a1) = true := beq_iff_eq.mpr c7
      have c7b1 : (((rd_T166 l0_2 x6_1).f0) != a1) = false := bne_eq_false_iff_eq.mpr c7
      clear c7
      simp only [Option.some.injEq, Prod.mk.injEq] at H
      obtain ⟨rfl, rfl, rfl, rfl⟩ := H
      have hnb8 := NB293_294.out
      have hnc8 := NB294_293.out
      obtain ⟨hcz9_0, hcz9_1, hcz9_2, hcz9_3, hcz9_4, hfz9_0, hfz9_1, hfz9_2, hfz9_3, hfz9_4⟩ := cs5_ BK293
      have p295 : 0 ≤ (x6_1 : Int) := od
      have q295 : x6_1 < (l0_2.length : Int) := od
      obtain ⟨ad295, e295, hx295_0, hx295_1, hx295_2⟩ := at_T166 HR0_2.out x6_1 p295 q295
      cases e295
      replace hx295_0 := ox HB hx295_0
      replace hx295_1 := ox HB hx295_1
      replace hx295_2 := ox HB hx295_2
      replace p295 := eq_true p295
      replace q295 := eq_true q295
      have p296 : 0 ≤ (x6_1 : Int) := od
      have q296 : x6_1 < (l0_2.length : Int) := od
      obtain ⟨ad296, e296, hx296_0, hx296_1, hx296_2⟩ := at_T166 HR0_2.out x6_1 p296 q296
      obtain rfl : ad295 = ad296 := (by injection e296)
      replace hx296_0 := ox HB hx296_0
      replace hx296_1 := ox HB hx296_1
      replace hx296_2 := ox HB hx296_2
      replace p296 := eq_true p296
      replace q296 := eq_true q296
      obtain ⟨hcz10_0, hcz10_1, hcz10_2, hfz10_0, hfz10_1, hfz10_2⟩ := cs3_ BK294
      go_wp2
      refine bodyPost_ret (results_ct rfl _ _ gb294 166 #[.int .i64 ((rd_T166 l0_2 x6_1).f0), .int .i64 ((rd_T166 l0_2 x6_1).f1), .int .i64 ((rd_T166 l0_2 x6_1).f2)] (0, 0) _ rfl (by (with_reducible repeat (first | refine blk_drewN ?_ _ | refine blk_drew ?_ | refine blk_alloc ?_ _)); refine blk_put (cs := #[.int .i64 ((rd_T166 l0_2 x6_1).f0), .int .i64 ((rd_T166 l0_2 x6_1).f1), .int .i64 x295002_1]) ?_ 2 _ rfl; (with_reducible repeat (first | refine blk_drewN ?_ _ | refine blk_drew ?_ | refine blk_alloc ?_ _)); refine blk_put (cs := #[.int .i64 ((rd_T166 l0_2 x6_1).f0), .int .i64 x295001_1, .int .i64 x295002_1]) ?_ 1 _ rfl; (with_reducible repeat (first | refine blk_drewN ?_ _ | refine blk_drew ?_ | refine blk_alloc ?_ _)); refine blk_put (cs := #[.int .i64 x295000_1, .int .i64 x295001_1, .int .i64 x295002_1]) ?_ 0 _ rfl; (with_reducible repeat (first | refine blk_drewN ?_ _ | refine blk_drew ?_ | refine blk_alloc ?_ _)); exact BK294.out) Try.underlying166 rfl (by kernel_rfl)) rfl ?_
      exact ⟨er, tb HB⟩
     ·rw [if_neg c7] at H
      have c7b0 : (((rd_T166 l0_2 x6_1).f0) == a1) = false := beq_eq_false_iff_ne.mpr c7
      have c7b1 : (((rd_T166 l0_2 x6_1).f0) != a1) = true := bne_iff_ne.mpr c7
      have H' := Aside0.mk H
      clear H
      have hnb11 := NB293_294.out
      have hnc11 := NB294_293.out
      obtain ⟨hcz12_0, hcz12_1, hcz12_2, hcz12_3, hcz12_4, hfz12_0, hfz12_1, hfz12_2, hfz12_3, hfz12_4⟩ := cs5_ BK293
      have p295 : 0 ≤ (x6_1 : Int) := od
      have q295 : x6_1 < (l0_2.length : Int) := od
      obtain ⟨ad295, e295, hx295_0, hx295_1, hx295_2⟩ := at_T166 HR0_2.out x6_1 p295 q295
      cases e295
      replace hx295_0 := ox HB hx295_0
      replace hx295_1 := ox HB hx295_1
      replace hx295_2 := ox HB hx295_2
      replace p295 := eq_true p295
      replace q295 := eq_true q295
      go_wp2
      go_roundg k1
      case measure => have := HK1.out; omega
      case rel => exact ⟨(wrap64 (x6_1 + 1)), (x295000_1), (x295001_1), (x295002_1), (by first | rfl | (simp; done) | (simp [*]; done)), H', ⟨by have := HK1.out; omega⟩, ⟨by (with_reducible repeat (first | refine blk_drewN ?_ _ | refine blk_drew ?_ | refine blk_alloc ?_ _)); exact BK293.out⟩, ⟨by (with_reducible repeat (first | refine blk_drewN ?_ _ | refine blk_drew ?_ | refine blk_alloc ?_ _)); exact BK294.out⟩, ⟨tb HB⟩⟩
    ·rw [if_neg c6] at H
     exact absurd H (by simp)
   ·rw [if_neg c5] at H
    have c5b0 := decide_eq_false c5
    clear c5
    simp only [Option.some.injEq, Prod.mk.injEq] at H
    obtain ⟨rfl, rfl, rfl, rfl⟩ := H
    have hnb13 := NB293_294.out
    have hnc13 := NB294_293.out
    obtain ⟨hcz14_0, hcz14_1, hcz14_2, hcz14_3, hcz14_4, hfz14_0, hfz14_1, hfz14_2, hfz14_3, hfz14_4⟩ := cs5_ BK293
    obtain ⟨hcz15_0, hcz15_1, hcz15_2, hfz15_0, hfz15_1, hfz15_2⟩ := cs3_ BK294
    go_wp2
    refine bodyPost_ret (results_ct rfl _ _ gb294 166 #[.int .i64 0, .int .i64 0, .int .i64 0] (0, 0) _ rfl (by (with_reducible repeat (first | refine blk_drewN ?_ _ | refine blk_drew ?_ | refine blk_alloc ?_ _)); refine blk_put (cs := #[.int .i64 0, .int .i64 0, .int .i64 x295002_1]) ?_ 2 _ rfl; (with_reducible repeat (first | refine blk_drewN ?_ _ | refine blk_drew ?_ | refine blk_alloc ?_ _)); refine blk_put (cs := #[.int .i64 0, .int .i64 x295001_1, .int .i64 x295002_1]) ?_ 1 _ rfl; (with_reducible repeat (first | refine blk_drewN ?_ _ | refine blk_drew ?_ | refine blk_alloc ?_ _)); refine blk_put (cs := #[.int .i64 x295000_1, .int .i64 x295001_1, .int .i64 x295002_1]) ?_ 0 _ rfl; (with_reducible repeat (first | refine blk_drewN ?_ _ | refine blk_drew ?_ | refine blk_alloc ?_ _)); exact BK294.out) Try.underlying166 rfl (by kernel_rfl)) rfl ?_
    exact ⟨er, tb HB⟩
def spec_ValueAt.f (k : Nat) (l0 : List (S141)) (l1 : List (S145)) (a2 : Int) : Option (Int) := (spec_l1In.f a2 0 (wrap64 ((l0.length : Int) - 1))).bind fun t297 => (if t297 = true then (if 0 ≤ a2 then (if a2 < (l0.length : Int) then (if ((rd_T141 l0 a2).f1) = 0 then (some ((rd_T141 l0 a2).f0)) else ((spec_l1In.f ((rd_T141 l0 a2).f1) 1 (l1.length : Int)).bind fun t300 => (if t300 = true then (if 0 ≤ (wrap64 (((rd_T141 l0 a2).f1) - 1)) then (if (wrap64 (((rd_T141 l0 a2).f1) - 1)) < (l1.length : Int) then ((spec_Entries.f k ((rd_T145 l1 (wrap64 (((rd_T141 l0 a2).f1) - 1))).f0) ((rd_T145 l1 (wrap64 (((rd_T141 l0 a2).f1) - 1))).f1) ((rd_T145 l1 (wrap64 (((rd_T141 l0 a2).f1) - 1))).f2) ((rd_T145 l1 (wrap64 (((rd_T141 l0 a2).f1) - 1))).f3.f0) ((rd_T145 l1 (wrap64 (((rd_T141 l0 a2).f1) - 1))).f3.f1) a2).bind fun bt303 => (if ((rd_T145 l1 (wrap64 (((rd_T141 l0 a2).f1) - 1))).f0) = ((rd_T141 l0 a2).f2) then (if ((rd_T145 l1 (wrap64 (((rd_T141 l0 a2).f1) - 1))).f1) = 2 then (some bt303.2.2.1) else (some bt303.2.1)) else (some bt303.2.1))) else (none)) else (none)) else (some 0)))) else (none)) else (none)) else (some 0))
theorem spec_ValueAt.mono : ∀ a0 a1 a2 k, LeO (spec_ValueAt.f k a0 a1 a2) (spec_ValueAt.f (k + 1) a0 a1 a2) := by
 intro a0 a1 a2 k
 unfold spec_ValueAt.f
 repeat' first
   | (with_reducible exact spec_Entries.mono _ _ _ _ _ _ _)
   | (with_reducible exact LeO.refl _)
   | (with_reducible exact LeO.none _)
   | (with_reducible refine LeO.ite ?_ ?_)
   | (with_reducible refine LeO.bind ?_ (fun _ => ?_))
   | exact spec_Entries.mono _ _ _ _ _ _ _
   | exact LeO.none _
   | refine LeO.ite ?_ ?_
   | refine LeO.bind ?_ (fun _ => ?_)
set_option maxHeartbeats 8000000 in
set_option maxRecDepth 100000 in
theorem spec_ValueAt.calls (k : Nat) (A0 : Option Addr) (c0 : Nat) (l0 : List (S141)) (A1 : Option Addr) (c1 : Nat) (l1 : List (S145)) (a2 : Int) (r : Int) (w : World) (hr0 : Kd.C k141 w A0 l0.length l0) (hc0 : l0.length ≤ c0) (hr1 : Kd.C k145 w A1 l1.length l1) (hc1 : l1.length ≤ c1) (h : spec_ValueAt.f k l0 l1 a2 = some r) :
  Calls Try.prog 96 #[.slice A0 l0.length c0, .slice A1 l1.length c1, .int .i64 a2] w fun e w' => e = .returned (.int .i64 r) ∧ Below w.heap.size w w' := by
 have hu141 := Try.underlying141
 have hu145 := Try.underlying145
 have hu166 := Try.underlying166
 have HR0 := Aside0.mk hr0
 have HC0 := Aside0.mk hc0
 clear hr0 hc0
 have HR1 := Aside0.mk hr1
 have HC1 := Aside0.mk hc1
 clear hr1 hc1
 have HB := Aside0.mk (Below.refl w.heap.size w)
 have H : ((spec_l1In.f a2 0 (wrap64 ((l0.length : Int) - 1))).bind fun t297 => (if t297 = true then (if 0 ≤ a2 then (if a2 < (l0.length : Int) then (if ((rd_T141 l0 a2).f1) = 0 then (some ((rd_T141 l0 a2).f0)) else ((spec_l1In.f ((rd_T141 l0 a2).f1) 1 (l1.length : Int)).bind fun t300 => (if t300 = true then (if 0 ≤ (wrap64 (((rd_T141 l0 a2).f1) - 1)) then (if (wrap64 (((rd_T141 l0 a2).f1) - 1)) < (l1.length : Int) then ((spec_Entries.f k ((rd_T145 l1 (wrap64 (((rd_T141 l0 a2).f1) - 1))).f0) ((rd_T145 l1 (wrap64 (((rd_T141 l0 a2).f1) - 1))).f1) ((rd_T145 l1 (wrap64 (((rd_T141 l0 a2).f1) - 1))).f2) ((rd_T145 l1 (wrap64 (((rd_T141 l0 a2).f1) - 1))).f3.f0) ((rd_T145 l1 (wrap64 (((rd_T141 l0 a2).f1) - 1))).f3.f1) a2).bind fun bt303 => (if ((rd_T145 l1 (wrap64 (((rd_T141 l0 a2).f1) - 1))).f0) = ((rd_T141 l0 a2).f2) then (if ((rd_T145 l1 (wrap64 (((rd_T141 l0 a2).f1) - 1))).f1) = 2 then (some bt303.2.2.1) else (some bt303.2.1)) else (some bt303.2.1))) else (none)) else (none)) else (some 0)))) else (none)) else (none)) else (some 0))) = some r := h
 clear h
 replace H := Option.bind_eq_some_iff.mp H
 obtain ⟨t297, A40, H⟩ := H
 replace H : (if t297 = true then (if 0 ≤ a2 then (if a2 < (l0.length : Int) then (if ((rd_T141 l0 a2).f1) = 0 then (some ((rd_T141 l0 a2).f0)) else ((spec_l1In.f ((rd_T141 l0 a2).f1) 1 (l1.length : Int)).bind fun t300 => (if t300 = true then (if 0 ≤ (wrap64 (((rd_T141 l0 a2).f1) - 1)) then (if (wrap64 (((rd_T141 l0 a2).f1) - 1)) < (l1.length : Int) then ((spec_Entries.f k ((rd_T145 l1 (wrap64 (((rd_T141 l0 a2).f1) - 1))).f0) ((rd_T145 l1 (wrap64 (((rd_T141 l0 a2).f1) - 1))).f1) ((rd_T145 l1 (wrap64 (((rd_T141 l0 a2).f1) - 1))).f2) ((rd_T145 l1 (wrap64 (((rd_T141 l0 a2).f1) - 1))).f3.f0) ((rd_T145 l1 (wrap64 (((rd_T141 l0 a2).f1) - 1))).f3.f1) a2).bind fun bt303 => (if ((rd_T145 l1 (wrap64 (((rd_T141 l0 a2).f1) - 1))).f0) = ((rd_T141 l0 a2).f2) then (if ((rd_T145 l1 (wrap64 (((rd_T141 l0 a2).f1) - 1))).f1) = 2 then (some bt303.2.2.1) else (some bt303.2.1)) else (some bt303.2.1))) else (none)) else (none)) else (some 0)))) else (none)) else (none)) else (some 0)) = some r := H
 have A4 := Aside0.mk A40
 clear A40
 by_cases c5 : t297 = true
 ·subst c5
  have H1 : (if 0 ≤ a2 then (if a2 < (l0.length : Int) then (if ((rd_T141 l0 a2).f1) = 0 then (some ((rd_T141 l0 a2).f0)) else ((spec_l1In.f ((rd_T141 l0 a2).f1) 1 (l1.length : Int)).bind fun t300 => (if t300 = true then (if 0 ≤ (wrap64 (((rd_T141 l0 a2).f1) - 1)) then (if (wrap64 (((rd_T141 l0 a2).f1) - 1)) < (l1.length : Int) then ((spec_Entries.f k ((rd_T145 l1 (wrap64 (((rd_T141 l0 a2).f1) - 1))).f0) ((rd_T145 l1 (wrap64 (((rd_T141 l0 a2).f1) - 1))).f1) ((rd_T145 l1 (wrap64 (((rd_T141 l0 a2).f1) - 1))).f2) ((rd_T145 l1 (wrap64 (((rd_T141 l0 a2).f1) - 1))).f3.f0) ((rd_T145 l1 (wrap64 (((rd_T141 l0 a2).f1) - 1))).f3.f1) a2).bind fun bt303 => (if ((rd_T145 l1 (wrap64 (((rd_T141 l0 a2).f1) - 1))).f0) = ((rd_T141 l0 a2).f2) then (if ((rd_T145 l1 (wrap64 (((rd_T141 l0 a2).f1) - 1))).f1) = 2 then (some bt303.2.2.1) else (some bt303.2.1)) else (some bt303.2.1))) else (none)) else (none)) else (some 0)))) else (none)) else (none)) = some r := by rw [if_pos rfl] at H; exact H
  clear H
  have H := H1
  clear H1
  by_cases c6 : 0 ≤ a2
  ·rw [if_pos c6] at H
   have c6b0 := decide_eq_true c6
   clear c6
   by_cases c7 : a2 < (l0.length : Int)
   ·rw [if_pos c7] at H
    have c7b0 := decide_eq_true c7
    clear c7
    by_cases c8 : ((rd_T141 l0 a2).f1) = 0
    ·rw [if_pos c8] at H
     have c8b0 : (((rd_T141 l0 a2).f1) == 0) = true := beq_iff_eq.mpr c8
     have c8b1 : (((rd_T141 l0 a2).f1) != 0) = false := bne_eq_false_iff_eq.mpr c8
     clear c8
     obtain rfl := Option.some.inj H
     go_enter Try.func96, Try.ntmps96
     go_wp2_with (first | ((with_reducible refine gate_callee (f := 79) rfl ?_); refine gL 15 Try.func79 #[.int .i64 a2, .int .i64 0, .int .i64 (wrap64 ((l0.length : Int) - 1))] ?_; (with_reducible refine (spec_l1In.calls a2 0 (wrap64 ((l0.length : Int) - 1)) true _ A4.out).mono ?_); rintro e w' ⟨rfl, ⟨nd, rfl⟩⟩; refine ⟨_, rfl, ?_⟩; have p298 : 0 ≤ (a2 : Int) := od; have q298 : a2 < (l0.length : Int) := od; obtain ⟨ad298, e298, hx298_0, hx298_1, hx298_2⟩ := at_T141 HR0.out a2 p298 q298; cases e298; replace p298 := eq_true p298; replace q298 := eq_true q298) | ((with_reducible refine gate_dst (N := 7) rfl ?_); refine bx (N := 7) (cs := #[.int .i64 0, .int .i64 0, .int .i64 0]) (t := 141) ?_; intro gb299 hg w9 hbox hb; have BK299 := Aside0.mk (hbox); have GW299 := Aside0.mk (ge_ hg HB); have GE299 := Aside0.mk (ge_ hg HB); replace HB := bs HB hb; clear hb hbox hg; obtain ⟨hcz10_0, hcz10_1, hcz10_2, hfz10_0, hfz10_1, hfz10_2⟩ := cs3_ BK299))
     go_ret
     exact ⟨er, tb HB⟩
    ·rw [if_neg c8] at H
     have c8b0 : (((rd_T141 l0 a2).f1) == 0) = false := beq_eq_false_iff_ne.mpr c8
     have c8b1 : (((rd_T141 l0 a2).f1) != 0) = true := bne_iff_ne.mpr c8
     replace H := Option.bind_eq_some_iff.mp H
     obtain ⟨t300, A110, H⟩ := H
     replace H : (if t300 = true then (if 0 ≤ (wrap64 (((rd_T141 l0 a2).f1) - 1)) then (if (wrap64 (((rd_T141 l0 a2).f1) - 1)) < (l1.length : Int) then ((spec_Entries.f k ((rd_T145 l1 (wrap64 (((rd_T141 l0 a2).f1) - 1))).f0) ((rd_T145 l1 (wrap64 (((rd_T141 l0 a2).f1) - 1))).f1) ((rd_T145 l1 (wrap64 (((rd_T141 l0 a2).f1) - 1))).f2) ((rd_T145 l1 (wrap64 (((rd_T141 l0 a2).f1) - 1))).f3.f0) ((rd_T145 l1 (wrap64 (((rd_T141 l0 a2).f1) - 1))).f3.f1) a2).bind fun bt303 => (if ((rd_T145 l1 (wrap64 (((rd_T141 l0 a2).f1) - 1))).f0) = ((rd_T141 l0 a2).f2) then (if ((rd_T145 l1 (wrap64 (((rd_T141 l0 a2).f1) - 1))).f1) = 2 then (some bt303.2.2.1) else (some bt303.2.1)) else (some bt303.2.1))) else (none)) else (none)) else (some 0)) = some r := H
     have A11 := Aside0.mk A110
     clear A110
     by_cases c12 : t300 = true
     ·subst c12
      have H1 : (if 0 ≤ (wrap64 (((rd_T141 l0 a2).f1) - 1)) then (if (wrap64 (((rd_T141 l0 a2).f1) - 1)) < (l1.length : Int) then ((spec_Entries.f k ((rd_T145 l1 (wrap64 (((rd_T141 l0 a2).f1) - 1))).f0) ((rd_T145 l1 (wrap64 (((rd_T141 l0 a2).f1) - 1))).f1) ((rd_T145 l1 (wrap64 (((rd_T141 l0 a2).f1) - 1))).f2) ((rd_T145 l1 (wrap64 (((rd_T141 l0 a2).f1) - 1))).f3.f0) ((rd_T145 l1 (wrap64 (((rd_T141 l0 a2).f1) - 1))).f3.f1) a2).bind fun bt303 => (if ((rd_T145 l1 (wrap64 (((rd_T141 l0 a2).f1) - 1))).f0) = ((rd_T141 l0 a2).f2) then (if ((rd_T145 l1 (wrap64 (((rd_T141 l0 a2).f1) - 1))).f1) = 2 then (some bt303.2.2.1) else (some bt303.2.1)) else (some bt303.2.1))) else (none)) else (none)) = some r := by rw [if_pos rfl] at H; exact H
      clear H
      have H := H1
      clear H1
      obtain ⟨ji13, hji13⟩ : ∃ j_ : Int, (wrap64 (((rd_T141 l0 a2).f1) - 1)) = j_ := ⟨_, rfl⟩
      replace H : (if 0 ≤ (ji13) then (if (ji13) < (l1.length : Int) then ((spec_Entries.f k ((rd_T145 l1 (ji13)).f0) ((rd_T145 l1 (ji13)).f1) ((rd_T145 l1 (ji13)).f2) ((rd_T145 l1 (ji13)).f3.f0) ((rd_T145 l1 (ji13)).f3.f1) a2).bind fun bt303 => (if ((rd_T145 l1 (ji13)).f0) = ((rd_T141 l0 a2).f2) then (if ((rd_T145 l1 (ji13)).f1) = 2 then (some bt303.2.2.1) else (some bt303.2.1)) else (some bt303.2.1))) else (none)) else (none)) = some r := by first | (rw [hji13] at H; exact H) | (simp only [hji13] at H ⊢; exact H)
      (try rw [hji13] at A4)
      (try rw [hji13] at A11)
      have hji13w : (IntKind.i64.wrap (((rd_T141 l0 a2).f1) - 1)) = ji13 := (i64_w _).trans hji13
      by_cases c14 : 0 ≤ (ji13)
      ·rw [if_pos c14] at H
       have c14b0 := decide_eq_true c14
       clear c14
       by_cases c15 : (ji13) < (l1.length : Int)
       ·rw [if_pos c15] at H
        have c15b0 := decide_eq_true c15
        clear c15
        replace H := Option.bind_eq_some_iff.mp H
        obtain ⟨⟨t303, t304, t305, t306⟩, A160, H⟩ := H
        replace H : (if ((rd_T145 l1 (ji13)).f0) = ((rd_T141 l0 a2).f2) then (if ((rd_T145 l1 (ji13)).f1) = 2 then (some t305) else (some t304)) else (some t304)) = some r := H
        have A16 := Aside0.mk A160
        clear A160
        by_cases c17 : ((rd_T145 l1 (ji13)).f0) = ((rd_T141 l0 a2).f2)
        ·rw [if_pos c17] at H
         have c17b0 : (((rd_T145 l1 (ji13)).f0) == ((rd_T141 l0 a2).f2)) = true := beq_iff_eq.mpr c17
         have c17b1 : (((rd_T145 l1 (ji13)).f0) != ((rd_T141 l0 a2).f2)) = false := bne_eq_false_iff_eq.mpr c17
         clear c17
         by_cases c18 : ((rd_T145 l1 (ji13)).f1) = 2
         ·rw [if_pos c18] at H
          have c18b0 : (((rd_T145 l1 (ji13)).f1) == 2) = true := beq_iff_eq.mpr c18
          have c18b1 : (((rd_T145 l1 (ji13)).f1) != 2) = false := bne_eq_false_iff_eq.mpr c18
          clear c18
          obtain rfl := Option.some.inj H
          go_enter Try.func96, Try.ntmps96
          go_wp2_with (first | ((with_reducible refine gate_callee (f := 79) rfl ?_); refine gL 15 Try.func79 #[.int .i64 a2, .int .i64 0, .int .i64 (wrap64 ((l0.length : Int) - 1))] ?_; (with_reducible refine (spec_l1In.calls a2 0 (wrap64 ((l0.length : Int) - 1)) true _ A4.out).mono ?_); rintro e w' ⟨rfl, ⟨nd, rfl⟩⟩; refine ⟨_, rfl, ?_⟩; have p298 : 0 ≤ (a2 : Int) := od; have q298 : a2 < (l0.length : Int) := od; obtain ⟨ad298, e298, hx298_0, hx298_1, hx298_2⟩ := at_T141 HR0.out a2 p298 q298; cases e298; replace p298 := eq_true p298; replace q298 := eq_true q298) | ((with_reducible refine gate_dst (N := 7) rfl ?_); refine bx (N := 7) (cs := #[.int .i64 0, .int .i64 0, .int .i64 0]) (t := 141) ?_; intro gb299 hg w19 hbox hb; have BK299 := Aside0.mk (hbox); have GW299 := Aside0.mk (ge_ hg HB); have GE299 := Aside0.mk (ge_ hg HB); replace HB := bs HB hb; clear hb hbox hg; obtain ⟨hcz20_0, hcz20_1, hcz20_2, hfz20_0, hfz20_1, hfz20_2⟩ := cs3_ BK299) | ((with_reducible refine gate_callee (f := 79) rfl ?_); refine gL 30 Try.func79 #[.int .i64 ((rd_T141 l0 a2).f1), .int .i64 1, .int .i64 (l1.length : Int)] ?_; (with_reducible refine (spec_l1In.calls ((rd_T141 l0 a2).f1) 1 (l1.length : Int) true _ A11.out).mono ?_); rintro e w' ⟨rfl, ⟨nd, rfl⟩⟩; refine ⟨_, rfl, ?_⟩; have p301 : 0 ≤ ((ji13) : Int) := od; have q301 : (ji13) < (l1.length : Int) := od; obtain ⟨ad301, A301_2, c301_2, A301_4, c301_4, e301, hx301_0, hx301_1, hx301_2, hx301_3, hx301_4, hl301_2, hi301_2, hl301_4, hi301_4⟩ := at_T145 HR1.out (ji13) p301 q301; cases e301; have hn301_0 : ad301.block ≠ gb299 := Nat.ne_of_lt (Nat.lt_of_lt_of_le (by have := World.block_lt_of_cell? _ _ hx301_0; first | rwa [add_block] at this | exact this) GW299.out); have hn301_1 : ad301.block ≠ gb299 := Nat.ne_of_lt (Nat.lt_of_lt_of_le (by have := World.block_lt_of_cell? _ _ hx301_0; first | rwa [add_block] at this | exact this) GW299.out); have hn301_2 : ad301.block ≠ gb299 := Nat.ne_of_lt (Nat.lt_of_lt_of_le (by have := World.block_lt_of_cell? _ _ hx301_0; first | rwa [add_block] at this | exact this) GW299.out); replace hx301_0 := ox HB hx301_0; replace hx301_1 := ox HB hx301_1; replace hx301_2 := ox HB hx301_2; replace hx301_3 := ox HB hx301_3; replace hx301_4 := ox HB hx301_4; have HR301_2 := Aside0.mk hi301_2; have HC301_2 := Aside0.mk hl301_2; clear hi301_2 hl301_2; have HR301_4 := Aside0.mk hi301_4; have HC301_4 := Aside0.mk hl301_4; clear hi301_4 hl301_4; replace hx301_0 := (cell_far (p := ⟨gb299, 0, none⟩) (by first | (rw [add_block]; exact hn301_0) | (show (Addr.add _ _).block ≠ _; rw [add_block]; exact hn301_0) | exact hn301_0) (.int .i64 ((rd_T141 l0 a2).f0))).trans hx301_0; replace hx301_1 := (cell_far (p := ⟨gb299, 0, none⟩) (by first | (rw [add_block]; exact hn301_0) | (show (Addr.add _ _).block ≠ _; rw [add_block]; exact hn301_0) | exact hn301_0) (.int .i64 ((rd_T141 l0 a2).f0))).trans hx301_1; replace hx301_2 := (cell_far (p := ⟨gb299, 0, none⟩) (by first | (rw [add_block]; exact hn301_0) | (show (Addr.add _ _).block ≠ _; rw [add_block]; exact hn301_0) | exact hn301_0) (.int .i64 ((rd_T141 l0 a2).f0))).trans hx301_2; replace hx301_3 := (cell_far (p := ⟨gb299, 0, none⟩) (by first | (rw [add_block]; exact hn301_0) | (show (Addr.add _ _).block ≠ _; rw [add_block]; exact hn301_0) | exact hn301_0) (.int .i64 ((rd_T141 l0 a2).f0))).trans hx301_3; replace hx301_4 := (cell_far (p := ⟨gb299, 0, none⟩) (by first | (rw [add_block]; exact hn301_0) | (show (Addr.add _ _).block ≠ _; rw [add_block]; exact hn301_0) | exact hn301_0) (.int .i64 ((rd_T141 l0 a2).f0))).trans hx301_4; replace hx301_0 := (cell_far (p := ⟨gb299, 1, none⟩) (by first | (rw [add_block]; exact hn301_1) | (show (Addr.add _ _).block ≠ _; rw [add_block]; exact hn301_1) | exact hn301_1) (.int .i64 ((rd_T141 l0 a2).f1))).trans hx301_0; replace hx301_1 := (cell_far (p := ⟨gb299, 1, none⟩) (by first | (rw [add_block]; exact hn301_1) | (show (Addr.add _ _).block ≠ _; rw [add_block]; exact hn301_1) | exact hn301_1) (.int .i64 ((rd_T141 l0 a2).f1))).trans hx301_1; replace hx301_2 := (cell_far (p := ⟨gb299, 1, none⟩) (by first | (rw [add_block]; exact hn301_1) | (show (Addr.add _ _).block ≠ _; rw [add_block]; exact hn301_1) | exact hn301_1) (.int .i64 ((rd_T141 l0 a2).f1))).trans hx301_2; replace hx301_3 := (cell_far (p := ⟨gb299, 1, none⟩) (by first | (rw [add_block]; exact hn301_1) | (show (Addr.add _ _).block ≠ _; rw [add_block]; exact hn301_1) | exact hn301_1) (.int .i64 ((rd_T141 l0 a2).f1))).trans hx301_3; replace hx301_4 := (cell_far (p := ⟨gb299, 1, none⟩) (by first | (rw [add_block]; exact hn301_1) | (show (Addr.add _ _).block ≠ _; rw [add_block]; exact hn301_1) | exact hn301_1) (.int .i64 ((rd_T141 l0 a2).f1))).trans hx301_4; replace hx301_0 := (cell_far (p := ⟨gb299, 2, none⟩) (by first | (rw [add_block]; exact hn301_2) | (show (Addr.add _ _).block ≠ _; rw [add_block]; exact hn301_2) | exact hn301_2) (.int .i64 ((rd_T141 l0 a2).f2))).trans hx301_0; replace hx301_1 := (cell_far (p := ⟨gb299, 2, none⟩) (by first | (rw [add_block]; exact hn301_2) | (show (Addr.add _ _).block ≠ _; rw [add_block]; exact hn301_2) | exact hn301_2) (.int .i64 ((rd_T141 l0 a2).f2))).trans hx301_1; replace hx301_2 := (cell_far (p := ⟨gb299, 2, none⟩) (by first | (rw [add_block]; exact hn301_2) | (show (Addr.add _ _).block ≠ _; rw [add_block]; exact hn301_2) | exact hn301_2) (.int .i64 ((rd_T141 l0 a2).f2))).trans hx301_2; replace hx301_3 := (cell_far (p := ⟨gb299, 2, none⟩) (by first | (rw [add_block]; exact hn301_2) | (show (Addr.add _ _).block ≠ _; rw [add_block]; exact hn301_2) | exact hn301_2) (.int .i64 ((rd_T141 l0 a2).f2))).trans hx301_3; replace hx301_4 := (cell_far (p := ⟨gb299, 2, none⟩) (by first | (rw [add_block]; exact hn301_2) | (show (Addr.add _ _).block ≠ _; rw [add_block]; exact hn301_2) | exact hn301_2) (.int .i64 ((rd_T141 l0 a2).f2))).trans hx301_4; clear hn301_0; clear hn301_1; clear hn301_2; replace p301 := eq_true p301; replace q301 := eq_true q301) | ((with_reducible refine gate_dst (N := 8) rfl ?_); refine bx (N := 8) (cs := #[.int .i64 0, .int .i64 0, .slice none 0 0, .int .i64 0, .slice none 0 0]) (t := 145) ?_; intro gb302 hg w21 hbox hb; have BK302 := Aside0.mk (hbox); have GE302 := Aside0.mk (ge_ hg HB); replace HB := bs HB hb; have NB299_302 := Aside0.mk ((by rw [hg]; exact Nat.ne_of_lt (blk_lt (g := gb299) (o := .cells #[.int .i64 ((rd_T141 l0 a2).f0), .int .i64 ((rd_T141 l0 a2).f1), .int .i64 ((rd_T141 l0 a2).f2)] 141 (0, 0)) (by (with_reducible repeat (first | refine blk_drewN ?_ _ | refine blk_drew ?_ | refine blk_alloc ?_ _)); refine blk_put (cs := #[.int .i64 ((rd_T141 l0 a2).f0), .int .i64 ((rd_T141 l0 a2).f1), .int .i64 0]) ?_ 2 _ rfl; (with_reducible repeat (first | refine blk_drewN ?_ _ | refine blk_drew ?_ | refine blk_alloc ?_ _)); refine blk_put (cs := #[.int .i64 ((rd_T141 l0 a2).f0), .int .i64 0, .int .i64 0]) ?_ 1 _ rfl; (with_reducible repeat (first | refine blk_drewN ?_ _ | refine blk_drew ?_ | refine blk_alloc ?_ _)); refine blk_put (cs := #[.int .i64 0, .int .i64 0, .int .i64 0]) ?_ 0 _ rfl; (with_reducible repeat (first | refine blk_drewN ?_ _ | refine blk_drew ?_ | refine blk_alloc ?_ _)); exact BK299.out)) : gb299 ≠ gb302)); have NB302_299 := Aside0.mk ((by rw [hg]; exact Nat.ne_of_gt (blk_lt (g := gb299) (o := .cells #[.int .i64 ((rd_T141 l0 a2).f0), .int .i64 ((rd_T141 l0 a2).f1), .int .i64 ((rd_T141 l0 a2).f2)] 141 (0, 0)) (by (with_reducible repeat (first | refine blk_drewN ?_ _ | refine blk_drew ?_ | refine blk_alloc ?_ _)); refine blk_put (cs := #[.int .i64 ((rd_T141 l0 a2).f0), .int .i64 ((rd_T141 l0 a2).f1), .int .i64 0]) ?_ 2 _ rfl; (with_reducible repeat (first | refine blk_drewN ?_ _ | refine blk_drew ?_ | refine blk_alloc ?_ _)); refine blk_put (cs := #[.int .i64 ((rd_T141 l0 a2).f0), .int .i64 0, .int .i64 0]) ?_ 1 _ rfl; (with_reducible repeat (first | refine blk_drewN ?_ _ | refine blk_drew ?_ | refine blk_alloc ?_ _)); refine blk_put (cs := #[.int .i64 0, .int .i64 0, .int .i64 0]) ?_ 0 _ rfl; (with_reducible repeat (first | refine blk_drewN ?_ _ | refine blk_drew ?_ | refine blk_alloc ?_ _)); exact BK299.out)) : gb302 ≠ gb299)); replace BK299 := Aside0.mk (blk_below (g := gb299) (o := .cells #[.int .i64 ((rd_T141 l0 a2).f0), .int .i64 ((rd_T141 l0 a2).f1), .int .i64 ((rd_T141 l0 a2).f2)] 141 (0, 0)) (by (with_reducible repeat (first | refine blk_drewN ?_ _ | refine blk_drew ?_ | refine blk_alloc ?_ _)); refine blk_put (cs := #[.int .i64 ((rd_T141 l0 a2).f0), .int .i64 ((rd_T141 l0 a2).f1), .int .i64 0]) ?_ 2 _ rfl; (with_reducible repeat (first | refine blk_drewN ?_ _ | refine blk_drew ?_ | refine blk_alloc ?_ _)); refine blk_put (cs := #[.int .i64 ((rd_T141 l0 a2).f0), .int .i64 0, .int .i64 0]) ?_ 1 _ rfl; (with_reducible repeat (first | refine blk_drewN ?_ _ | refine blk_drew ?_ | refine blk_alloc ?_ _)); refine blk_put (cs := #[.int .i64 0, .int .i64 0, .int .i64 0]) ?_ 0 _ rfl; (with_reducible repeat (first | refine blk_drewN ?_ _ | refine blk_drew ?_ | refine blk_alloc ?_ _)); exact BK299.out) hb); clear hb hbox hg; have hnb22 := NB302_299.out; have hnc22 := NB299_302.out; obtain ⟨hcz23_0, hcz23_1, hcz23_2, hcz23_3, hcz23_4, hfz23_0, hfz23_1, hfz23_2, hfz23_3, hfz23_4⟩ := cs5_ BK302) | ((with_reducible refine gate_callee (f := 156) rfl ?_); refine goesL_ (some 41) rfl rfl Try.func156 (by kernel_rfl) rfl #[.agg #[.int .i64 ((rd_T145 l1 (ji13)).f0), .int .i64 ((rd_T145 l1 (ji13)).f1), .slice A301_2 ((rd_T145 l1 (ji13)).f2).length c301_2, .int .i64 ((rd_T145 l1 (ji13)).f3.f0), .slice A301_4 ((rd_T145 l1 (ji13)).f3.f1).length c301_4], .int .i64 a2] rfl (by (try simp only [List.map_toArray, List.map_cons, List.map_nil]); first | done | (simp only [hji13]; rfl) | rfl | (simp only [List.length_drop, List.length_take]; rfl)) ?_; (with_reducible refine (spec_Entries.calls k ((rd_T145 l1 (ji13)).f0) ((rd_T145 l1 (ji13)).f1) _ _ ((rd_T145 l1 (ji13)).f2) ((rd_T145 l1 (ji13)).f3.f0) _ _ ((rd_T145 l1 (ji13)).f3.f1) a2 t303 t304 t305 t306 _ ?side1 ?side2 ?side3 ?side4 A16.out).mono ?_); (case side1 => exact Kd.C_below HR301_2.out (tb HB)); (case side2 => exact HC301_2.out); (case side3 => exact Kd.C_below HR301_4.out (tb HB)); (case side4 => exact HC301_4.out); rintro e w24 ⟨rfl, hb⟩; refine ⟨_, rfl, ?_⟩; replace BK299 := Aside0.mk (blk_below (g := gb299) (o := .cells #[.int .i64 ((rd_T141 l0 a2).f0), .int .i64 ((rd_T141 l0 a2).f1), .int .i64 ((rd_T141 l0 a2).f2)] 141 (0, 0)) (bf BK299) hb); replace BK302 := Aside0.mk (blk_below (g := gb302) (o := .cells #[.int .i64 ((rd_T145 l1 (ji13)).f0), .int .i64 ((rd_T145 l1 (ji13)).f1), .slice A301_2 ((rd_T145 l1 (ji13)).f2).length c301_2, .int .i64 ((rd_T145 l1 (ji13)).f3.f0), .slice A301_4 ((rd_T145 l1 (ji13)).f3.f1).length c301_4] 145 (0, 0)) (by (with_reducible repeat (first | refine blk_drewN ?_ _ | refine blk_drew ?_ | refine blk_alloc ?_ _)); refine blk_put (cs := #[.int .i64 ((rd_T145 l1 (ji13)).f0), .int .i64 ((rd_T145 l1 (ji13)).f1), .slice A301_2 ((rd_T145 l1 (ji13)).f2).length c301_2, .int .i64 ((rd_T145 l1 (ji13)).f3.f0), .slice none 0 0]) ?_ 4 _ rfl; (with_reducible repeat (first | refine blk_drewN ?_ _ | refine blk_drew ?_ | refine blk_alloc ?_ _)); refine blk_put (cs := #[.int .i64 ((rd_T145 l1 (ji13)).f0), .int .i64 ((rd_T145 l1 (ji13)).f1), .slice A301_2 ((rd_T145 l1 (ji13)).f2).length c301_2, .int .i64 0, .slice none 0 0]) ?_ 3 _ rfl; (with_reducible repeat (first | refine blk_drewN ?_ _ | refine blk_drew ?_ | refine blk_alloc ?_ _)); refine blk_put (cs := #[.int .i64 ((rd_T145 l1 (ji13)).f0), .int .i64 ((rd_T145 l1 (ji13)).f1), .slice none 0 0, .int .i64 0, .slice none 0 0]) ?_ 2 _ rfl; (with_reducible repeat (first | refine blk_drewN ?_ _ | refine blk_drew ?_ | refine blk_alloc ?_ _)); refine blk_put (cs := #[.int .i64 ((rd_T145 l1 (ji13)).f0), .int .i64 0, .slice none 0 0, .int .i64 0, .slice none 0 0]) ?_ 1 _ rfl; (with_reducible repeat (first | refine blk_drewN ?_ _ | refine blk_drew ?_ | refine blk_alloc ?_ _)); refine blk_put (cs := #[.int .i64 0, .int .i64 0, .slice none 0 0, .int .i64 0, .slice none 0 0]) ?_ 0 _ rfl; (with_reducible repeat (first | refine blk_drewN ?_ _ | refine blk_drew ?_ | refine blk_alloc ?_ _)); exact BK302.out) hb); replace HB := bs HB hb; (try clear hb); (try clear hb2); (try clear hk); (try clear hi)) | ((with_reducible refine gate_dst (N := 9) rfl ?_); refine bx (N := 9) (cs := #[.int .i64 0, .int .i64 0, .int .i64 0]) (t := 166) ?_; intro gb307 hg w25 hbox hb; have BK307 := Aside0.mk (hbox); have GE307 := Aside0.mk (ge_ hg HB); replace HB := bs HB hb; have NB299_307 := Aside0.mk (nl_ hg BK299); have NB307_299 := Aside0.mk (ng_ hg BK299); replace BK299 := bb BK299 hb; have NB302_307 := Aside0.mk (nl_ hg BK302); have NB307_302 := Aside0.mk (ng_ hg BK302); replace BK302 := bb BK302 hb; clear hb hbox hg; have hnb26 := NB307_299.out; have hnc26 := NB299_307.out; have hnb27 := NB307_302.out; have hnc27 := NB302_307.out; obtain ⟨hcz28_0, hcz28_1, hcz28_2, hfz28_0, hfz28_1, hfz28_2⟩ := cs3_ BK307; obtain ⟨hcz29_0, hcz29_1, hcz29_2, hcz29_3, hcz29_4, hfz29_0, hfz29_1, hfz29_2, hfz29_3, hfz29_4⟩ := cs5_ BK302; obtain ⟨hcz30_0, hcz30_1, hcz30_2, hfz30_0, hfz30_1, hfz30_2⟩ := cs3_ BK299))
          go_ret
          exact ⟨by first | rfl | (simp [errW_none, errW_some] <;> rfl) | (simp only [← hji13]; first | rfl | (simp [errW_none, errW_some] <;> rfl)) | (simp [*, errW_none, errW_some] <;> rfl), tb HB⟩
         ·rw [if_neg c18] at H
          have c18b0 : (((rd_T145 l1 (ji13)).f1) == 2) = false := beq_eq_false_iff_ne.mpr c18
          have c18b1 : (((rd_T145 l1 (ji13)).f1) != 2) = true := bne_iff_ne.mpr c18
          obtain rfl := Option.some.inj H
          go_enter Try.func96, Try.ntmps96
          go_wp2_with (first | ((with_reducible refine gate_callee (f := 79) rfl ?_); refine gL 15 Try.func79 #[.int .i64 a2, .int .i64 0, .int .i64 (wrap64 ((l0.length : Int) - 1))] ?_; (with_reducible refine (spec_l1In.calls a2 0 (wrap64 ((l0.length : Int) - 1)) true _ A4.out).mono ?_); rintro e w' ⟨rfl, ⟨nd, rfl⟩⟩; refine ⟨_, rfl, ?_⟩; have p298 : 0 ≤ (a2 : Int) := od; have q298 : a2 < (l0.length : Int) := od; obtain ⟨ad298, e298, hx298_0, hx298_1, hx298_2⟩ := at_T141 HR0.out a2 p298 q298; cases e298; replace p298 := eq_true p298; replace q298 := eq_true q298) | ((with_reducible refine gate_dst (N := 7) rfl ?_); refine bx (N := 7) (cs := #[.int .i64 0, .int .i64 0, .int .i64 0]) (t := 141) ?_; intro gb299 hg w31 hbox hb; have BK299 := Aside0.mk (hbox); have GW299 := Aside0.mk (ge_ hg HB); have GE299 := Aside0.mk (ge_ hg HB); replace HB := bs HB hb; clear hb hbox hg; obtain ⟨hcz32_0, hcz32_1, hcz32_2, hfz32_0, hfz32_1, hfz32_2⟩ := cs3_ BK299) | ((with_reducible refine gate_callee (f := 79) rfl ?_); refine gL 30 Try.func79 #[.int .i64 ((rd_T141 l0 a2).f1), .int .i64 1, .int .i64 (l1.length : Int)] ?_; (with_reducible refine (spec_l1In.calls ((rd_T141 l0 a2).f1) 1 (l1.length : Int) true _ A11.out).mono ?_); rintro e w' ⟨rfl, ⟨nd, rfl⟩⟩; refine ⟨_, rfl, ?_⟩; have p301 : 0 ≤ ((ji13) : Int) := od; have q301 : (ji13) < (l1.length : Int) := od; obtain ⟨ad301, A301_2, c301_2, A301_4, c301_4, e301, hx301_0, hx301_1, hx301_2, hx301_3, hx301_4, hl301_2, hi301_2, hl301_4, hi301_4⟩ := at_T145 HR1.out (ji13) p301 q301; cases e301; have hn301_0 : ad301.block ≠ gb299 := Nat.ne_of_lt (Nat.lt_of_lt_of_le (by have := World.block_lt_of_cell? _ _ hx301_0; first | rwa [add_block] at this | exact this) GW299.out); have hn301_1 : ad301.block ≠ gb299 := Nat.ne_of_lt (Nat.lt_of_lt_of_le (by have := World.block_lt_of_cell? _ _ hx301_0; first | rwa [add_block] at this | exact this) GW299.out); have hn301_2 : ad301.block ≠ gb299 := Nat.ne_of_lt (Nat.lt_of_lt_of_le (by have := World.block_lt_of_cell? _ _ hx301_0; first | rwa [add_block] at this | exact this) GW299.out); replace hx301_0 := ox HB hx301_0; replace hx301_1 := ox HB hx301_1; replace hx301_2 := ox HB hx301_2; replace hx301_3 := ox HB hx301_3; replace hx301_4 := ox HB hx301_4; have HR301_2 := Aside0.mk hi301_2; have HC301_2 := Aside0.mk hl301_2; clear hi301_2 hl301_2; have HR301_4 := Aside0.mk hi301_4; have HC301_4 := Aside0.mk hl301_4; clear hi301_4 hl301_4; replace hx301_0 := (cell_far (p := ⟨gb299, 0, none⟩) (by first | (rw [add_block]; exact hn301_0) | (show (Addr.add _ _).block ≠ _; rw [add_block]; exact hn301_0) | exact hn301_0) (.int .i64 ((rd_T141 l0 a2).f0))).trans hx301_0; replace hx301_1 := (cell_far (p := ⟨gb299, 0, none⟩) (by first | (rw [add_block]; exact hn301_0) | (show (Addr.add _ _).block ≠ _; rw [add_block]; exact hn301_0) | exact hn301_0) (.int .i64 ((rd_T141 l0 a2).f0))).trans hx301_1; replace hx301_2 := (cell_far (p := ⟨gb299, 0, none⟩) (by first | (rw [add_block]; exact hn301_0) | (show (Addr.add _ _).block ≠ _; rw [add_block]; exact hn301_0) | exact hn301_0) (.int .i64 ((rd_T141 l0 a2).f0))).trans hx301_2; replace hx301_3 := (cell_far (p := ⟨gb299, 0, none⟩) (by first | (rw [add_block]; exact hn301_0) | (show (Addr.add _ _).block ≠ _; rw [add_block]; exact hn301_0) | exact hn301_0) (.int .i64 ((rd_T141 l0 a2).f0))).trans hx301_3; replace hx301_4 := (cell_far (p := ⟨gb299, 0, none⟩) (by first | (rw [add_block]; exact hn301_0) | (show (Addr.add _ _).block ≠ _; rw [add_block]; exact hn301_0) | exact hn301_0) (.int .i64 ((rd_T141 l0 a2).f0))).trans hx301_4; replace hx301_0 := (cell_far (p := ⟨gb299, 1, none⟩) (by first | (rw [add_block]; exact hn301_1) | (show (Addr.add _ _).block ≠ _; rw [add_block]; exact hn301_1) | exact hn301_1) (.int .i64 ((rd_T141 l0 a2).f1))).trans hx301_0; replace hx301_1 := (cell_far (p := ⟨gb299, 1, none⟩) (by first | (rw [add_block]; exact hn301_1) | (show (Addr.add _ _).block ≠ _; rw [add_block]; exact hn301_1) | exact hn301_1) (.int .i64 ((rd_T141 l0 a2).f1))).trans hx301_1; replace hx301_2 := (cell_far (p := ⟨gb299, 1, none⟩) (by first | (rw [add_block]; exact hn301_1) | (show (Addr.add _ _).block ≠ _; rw [add_block]; exact hn301_1) | exact hn301_1) (.int .i64 ((rd_T141 l0 a2).f1))).trans hx301_2; replace hx301_3 := (cell_far (p := ⟨gb299, 1, none⟩) (by first | (rw [add_block]; exact hn301_1) | (show (Addr.add _ _).block ≠ _; rw [add_block]; exact hn301_1) | exact hn301_1) (.int .i64 ((rd_T141 l0 a2).f1))).trans hx301_3; replace hx301_4 := (cell_far (p := ⟨gb299, 1, none⟩) (by first | (rw [add_block]; exact hn301_1) | (show (Addr.add _ _).block ≠ _; rw [add_block]; exact hn301_1) | exact hn301_1) (.int .i64 ((rd_T141 l0 a2).f1))).trans hx301_4; replace hx301_0 := (cell_far (p := ⟨gb299, 2, none⟩) (by first | (rw [add_block]; exact hn301_2) | (show (Addr.add _ _).block ≠ _; rw [add_block]; exact hn301_2) | exact hn301_2) (.int .i64 ((rd_T141 l0 a2).f2))).trans hx301_0; replace hx301_1 := (cell_far (p := ⟨gb299, 2, none⟩) (by first | (rw [add_block]; exact hn301_2) | (show (Addr.add _ _).block ≠ _; rw [add_block]; exact hn301_2) | exact hn301_2) (.int .i64 ((rd_T141 l0 a2).f2))).trans hx301_1; replace hx301_2 := (cell_far (p := ⟨gb299, 2, none⟩) (by first | (rw [add_block]; exact hn301_2) | (show (Addr.add _ _).block ≠ _; rw [add_block]; exact hn301_2) | exact hn301_2) (.int .i64 ((rd_T141 l0 a2).f2))).trans hx301_2; replace hx301_3 := (cell_far (p := ⟨gb299, 2, none⟩) (by first | (rw [add_block]; exact hn301_2) | (show (Addr.add _ _).block ≠ _; rw [add_block]; exact hn301_2) | exact hn301_2) (.int .i64 ((rd_T141 l0 a2).f2))).trans hx301_3; replace hx301_4 := (cell_far (p := ⟨gb299, 2, none⟩) (by first | (rw [add_block]; exact hn301_2) | (show (Addr.add _ _).block ≠ _; rw [add_block]; exact hn301_2) | exact hn301_2) (.int .i64 ((rd_T141 l0 a2).f2))).trans hx301_4; clear hn301_0; clear hn301_1; clear hn301_2; replace p301 := eq_true p301; replace q301 := eq_true q301) | ((with_reducible refine gate_dst (N := 8) rfl ?_); refine bx (N := 8) (cs := #[.int .i64 0, .int .i64 0, .slice none 0 0, .int .i64 0, .slice none 0 0]) (t := 145) ?_; intro gb302 hg w33 hbox hb; have BK302 := Aside0.mk (hbox); have GE302 := Aside0.mk (ge_ hg HB); replace HB := bs HB hb; have NB299_302 := Aside0.mk ((by rw [hg]; exact Nat.ne_of_lt (blk_lt (g := gb299) (o := .cells #[.int .i64 ((rd_T141 l0 a2).f0), .int .i64 ((rd_T141 l0 a2).f1), .int .i64 ((rd_T141 l0 a2).f2)] 141 (0, 0)) (by (with_reducible repeat (first | refine blk_drewN ?_ _ | refine blk_drew ?_ | refine blk_alloc ?_ _)); refine blk_put (cs := #[.int .i64 ((rd_T141 l0 a2).f0), .int .i64 ((rd_T141 l0 a2).f1), .int .i64 0]) ?_ 2 _ rfl; (with_reducible repeat (first | refine blk_drewN ?_ _ | refine blk_drew ?_ | refine blk_alloc ?_ _)); refine blk_put (cs := #[.int .i64 ((rd_T141 l0 a2).f0), .int .i64 0, .int .i64 0]) ?_ 1 _ rfl; (with_reducible repeat (first | refine blk_drewN ?_ _ | refine blk_drew ?_ | refine blk_alloc ?_ _)); refine blk_put (cs := #[.int .i64 0, .int .i64 0, .int .i64 0]) ?_ 0 _ rfl; (with_reducible repeat (first | refine blk_drewN ?_ _ | refine blk_drew ?_ | refine blk_alloc ?_ _)); exact BK299.out)) : gb299 ≠ gb302)); have NB302_299 := Aside0.mk ((by rw [hg]; exact Nat.ne_of_gt (blk_lt (g := gb299) (o := .cells #[.int .i64 ((rd_T141 l0 a2).f0), .int .i64 ((rd_T141 l0 a2).f1), .int .i64 ((rd_T141 l0 a2).f2)] 141 (0, 0)) (by (with_reducible repeat (first | refine blk_drewN ?_ _ | refine blk_drew ?_ | refine blk_alloc ?_ _)); refine blk_put (cs := #[.int .i64 ((rd_T141 l0 a2).f0), .int .i64 ((rd_T141 l0 a2).f1), .int .i64 0]) ?_ 2 _ rfl; (with_reducible repeat (first | refine blk_drewN ?_ _ | refine blk_drew ?_ | refine blk_alloc ?_ _)); refine blk_put (cs := #[.int .i64 ((rd_T141 l0 a2).f0), .int .i64 0, .int .i64 0]) ?_ 1 _ rfl; (with_reducible repeat (first | refine blk_drewN ?_ _ | refine blk_drew ?_ | refine blk_alloc ?_ _)); refine blk_put (cs := #[.int .i64 0, .int .i64 0, .int .i64 0]) ?_ 0 _ rfl; (with_reducible repeat (first | refine blk_drewN ?_ _ | refine blk_drew ?_ | refine blk_alloc ?_ _)); exact BK299.out)) : gb302 ≠ gb299)); replace BK299 := Aside0.mk (blk_below (g := gb299) (o := .cells #[.int .i64 ((rd_T141 l0 a2).f0), .int .i64 ((rd_T141 l0 a2).f1), .int .i64 ((rd_T141 l0 a2).f2)] 141 (0, 0)) (by (with_reducible repeat (first | refine blk_drewN ?_ _ | refine blk_drew ?_ | refine blk_alloc ?_ _)); refine blk_put (cs := #[.int .i64 ((rd_T141 l0 a2).f0), .int .i64 ((rd_T141 l0 a2).f1), .int .i64 0]) ?_ 2 _ rfl; (with_reducible repeat (first | refine blk_drewN ?_ _ | refine blk_drew ?_ | refine blk_alloc ?_ _)); refine blk_put (cs := #[.int .i64 ((rd_T141 l0 a2).f0), .int .i64 0, .int .i64 0]) ?_ 1 _ rfl; (with_reducible repeat (first | refine blk_drewN ?_ _ | refine blk_drew ?_ | refine blk_alloc ?_ _)); refine blk_put (cs := #[.int .i64 0, .int .i64 0, .int .i64 0]) ?_ 0 _ rfl; (with_reducible repeat (first | refine blk_drewN ?_ _ | refine blk_drew ?_ | refine blk_alloc ?_ _)); exact BK299.out) hb); clear hb hbox hg; have hnb34 := NB302_299.out; have hnc34 := NB299_302.out; obtain ⟨hcz35_0, hcz35_1, hcz35_2, hcz35_3, hcz35_4, hfz35_0, hfz35_1, hfz35_2, hfz35_3, hfz35_4⟩ := cs5_ BK302) | ((with_reducible refine gate_callee (f := 156) rfl ?_); refine goesL_ (some 41) rfl rfl Try.func156 (by kernel_rfl) rfl #[.agg #[.int .i64 ((rd_T145 l1 (ji13)).f0), .int .i64 ((rd_T145 l1 (ji13)).f1), .slice A301_2 ((rd_T145 l1 (ji13)).f2).length c301_2, .int .i64 ((rd_T145 l1 (ji13)).f3.f0), .slice A301_4 ((rd_T145 l1 (ji13)).f3.f1).length c301_4], .int .i64 a2] rfl (by (try simp only [List.map_toArray, List.map_cons, List.map_nil]); first | done | (simp only [hji13]; rfl) | rfl | (simp only [List.length_drop, List.length_take]; rfl)) ?_; (with_reducible refine (spec_Entries.calls k ((rd_T145 l1 (ji13)).f0) ((rd_T145 l1 (ji13)).f1) _ _ ((rd_T145 l1 (ji13)).f2) ((rd_T145 l1 (ji13)).f3.f0) _ _ ((rd_T145 l1 (ji13)).f3.f1) a2 t303 t304 t305 t306 _ ?side1 ?side2 ?side3 ?side4 A16.out).mono ?_); (case side1 => exact Kd.C_below HR301_2.out (tb HB)); (case side2 => exact HC301_2.out); (case side3 => exact Kd.C_below HR301_4.out (tb HB)); (case side4 => exact HC301_4.out); rintro e w36 ⟨rfl, hb⟩; refine ⟨_, rfl, ?_⟩; replace BK299 := Aside0.mk (blk_below (g := gb299) (o := .cells #[.int .i64 ((rd_T141 l0 a2).f0), .int .i64 ((rd_T141 l0 a2).f1), .int .i64 ((rd_T141 l0 a2).f2)] 141 (0, 0)) (bf BK299) hb); replace BK302 := Aside0.mk (blk_below (g := gb302) (o := .cells #[.int .i64 ((rd_T145 l1 (ji13)).f0), .int .i64 ((rd_T145 l1 (ji13)).f1), .slice A301_2 ((rd_T145 l1 (ji13)).f2).length c301_2, .int .i64 ((rd_T145 l1 (ji13)).f3.f0), .slice A301_4 ((rd_T145 l1 (ji13)).f3.f1).length c301_4] 145 (0, 0)) (by (with_reducible repeat (first | refine blk_drewN ?_ _ | refine blk_drew ?_ | refine blk_alloc ?_ _)); refine blk_put (cs := #[.int .i64 ((rd_T145 l1 (ji13)).f0), .int .i64 ((rd_T145 l1 (ji13)).f1), .slice A301_2 ((rd_T145 l1 (ji13)).f2).length c301_2, .int .i64 ((rd_T145 l1 (ji13)).f3.f0), .slice none 0 0]) ?_ 4 _ rfl; (with_reducible repeat (first | refine blk_drewN ?_ _ | refine blk_drew ?_ | refine blk_alloc ?_ _)); refine blk_put (cs := #[.int .i64 ((rd_T145 l1 (ji13)).f0), .int .i64 ((rd_T145 l1 (ji13)).f1), .slice A301_2 ((rd_T145 l1 (ji13)).f2).length c301_2, .int .i64 0, .slice none 0 0]) ?_ 3 _ rfl; (with_reducible repeat (first | refine blk_drewN ?_ _ | refine blk_drew ?_ | refine blk_alloc ?_ _)); refine blk_put (cs := #[.int .i64 ((rd_T145 l1 (ji13)).f0), .int .i64 ((rd_T145 l1 (ji13)).f1), .slice none 0 0, .int .i64 0, .slice none 0 0]) ?_ 2 _ rfl; (with_reducible repeat (first | refine blk_drewN ?_ _ | refine blk_drew ?_ | refine blk_alloc ?_ _)); refine blk_put (cs := #[.int .i64 ((rd_T145 l1 (ji13)).f0), .int .i64 0, .slice none 0 0, .int .i64 0, .slice none 0 0]) ?_ 1 _ rfl; (with_reducible repeat (first | refine blk_drewN ?_ _ | refine blk_drew ?_ | refine blk_alloc ?_ _)); refine blk_put (cs := #[.int .i64 0, .int .i64 0, .slice none 0 0, .int .i64 0, .slice none 0 0]) ?_ 0 _ rfl; (with_reducible repeat (first | refine blk_drewN ?_ _ | refine blk_drew ?_ | refine blk_alloc ?_ _)); exact BK302.out) hb); replace HB := bs HB hb; (try clear hb); (try clear hb2); (try clear hk); (try clear hi)) | ((with_reducible refine gate_dst (N := 9) rfl ?_); refine bx (N := 9) (cs := #[.int .i64 0, .int .i64 0, .int .i64 0]) (t := 166) ?_; intro gb307 hg w37 hbox hb; have BK307 := Aside0.mk (hbox); have GE307 := Aside0.mk (ge_ hg HB); replace HB := bs HB hb; have NB299_307 := Aside0.mk (nl_ hg BK299); have NB307_299 := Aside0.mk (ng_ hg BK299); replace BK299 := bb BK299 hb; have NB302_307 := Aside0.mk (nl_ hg BK302); have NB307_302 := Aside0.mk (ng_ hg BK302); replace BK302 := bb BK302 hb; clear hb hbox hg; have hnb38 := NB307_299.out; have hnc38 := NB299_307.out; have hnb39 := NB307_302.out; have hnc39 := NB302_307.out; obtain ⟨hcz40_0, hcz40_1, hcz40_2, hfz40_0, hfz40_1, hfz40_2⟩ := cs3_ BK307; obtain ⟨hcz41_0, hcz41_1, hcz41_2, hcz41_3, hcz41_4, hfz41_0, hfz41_1, hfz41_2, hfz41_3, hfz41_4⟩ := cs5_ BK302; obtain ⟨hcz42_0, hcz42_1, hcz42_2, hfz42_0, hfz42_1, hfz42_2⟩ := cs3_ BK299))
          go_ret
          exact ⟨by first | rfl | (simp [errW_none, errW_some] <;> rfl) | (simp only [← hji13]; first | rfl | (simp [errW_none, errW_some] <;> rfl)) | (simp [*, errW_none, errW_some] <;> rfl), tb HB⟩
        ·rw [if_neg c17] at H
         have c17b0 : (((rd_T145 l1 (ji13)).f0) == ((rd_T141 l0 a2).f2)) = false := beq_eq_false_iff_ne.mpr c17
         have c17b1 : (((rd_T145 l1 (ji13)).f0) != ((rd_T141 l0 a2).f2)) = true := bne_iff_ne.mpr c17
         obtain rfl := Option.some.inj H
         go_enter Try.func96, Try.ntmps96
         go_wp2_with (first | ((with_reducible refine gate_callee (f := 79) rfl ?_); refine gL 15 Try.func79 #[.int .i64 a2, .int .i64 0, .int .i64 (wrap64 ((l0.length : Int) - 1))] ?_; (with_reducible refine (spec_l1In.calls a2 0 (wrap64 ((l0.length : Int) - 1)) true _ A4.out).mono ?_); rintro e w' ⟨rfl, ⟨nd, rfl⟩⟩; refine ⟨_, rfl, ?_⟩; have p298 : 0 ≤ (a2 : Int) := od; have q298 : a2 < (l0.length : Int) := od; obtain ⟨ad298, e298, hx298_0, hx298_1, hx298_2⟩ := at_T141 HR0.out a2 p298 q298; cases e298; replace p298 := eq_true p298; replace q298 := eq_true q298) | ((with_reducible refine gate_dst (N := 7) rfl ?_); refine bx (N := 7) (cs := #[.int .i64 0, .int .i64 0, .int .i64 0]) (t := 141) ?_; intro gb299 hg w43 hbox hb; have BK299 := Aside0.mk (hbox); have GW299 := Aside0.mk (ge_ hg HB); have GE299 := Aside0.mk (ge_ hg HB); replace HB := bs HB hb; clear hb hbox hg; obtain ⟨hcz44_0, hcz44_1, hcz44_2, hfz44_0, hfz44_1, hfz44_2⟩ := cs3_ BK299) | ((with_reducible refine gate_callee (f := 79) rfl ?_); refine gL 30 Try.func79 #[.int .i64 ((rd_T141 l0 a2).f1), .int .i64 1, .int .i64 (l1.length : Int)] ?_; (with_reducible refine (spec_l1In.calls ((rd_T141 l0 a2).f1) 1 (l1.length : Int) true _ A11.out).mono ?_); rintro e w' ⟨rfl, ⟨nd, rfl⟩⟩; refine ⟨_, rfl, ?_⟩; have p301 : 0 ≤ ((ji13) : Int) := od; have q301 : (ji13) < (l1.length : Int) := od; obtain ⟨ad301, A301_2, c301_2, A301_4, c301_4, e301, hx301_0, hx301_1, hx301_2, hx301_3, hx301_4, hl301_2, hi301_2, hl301_4, hi301_4⟩ := at_T145 HR1.out (ji13) p301 q301; cases e301; have hn301_0 : ad301.block ≠ gb299 := Nat.ne_of_lt (Nat.lt_of_lt_of_le (by have := World.block_lt_of_cell? _ _ hx301_0; first | rwa [add_block] at this | exact this) GW299.out); have hn301_1 : ad301.block ≠ gb299 := Nat.ne_of_lt (Nat.lt_of_lt_of_le (by have := World.block_lt_of_cell? _ _ hx301_0; first | rwa [add_block] at this | exact this) GW299.out); have hn301_2 : ad301.block ≠ gb299 := Nat.ne_of_lt (Nat.lt_of_lt_of_le (by have := World.block_lt_of_cell? _ _ hx301_0; first | rwa [add_block] at this | exact this) GW299.out); replace hx301_0 := ox HB hx301_0; replace hx301_1 := ox HB hx301_1; replace hx301_2 := ox HB hx301_2; replace hx301_3 := ox HB hx301_3; replace hx301_4 := ox HB hx301_4; have HR301_2 := Aside0.mk hi301_2; have HC301_2 := Aside0.mk hl301_2; clear hi301_2 hl301_2; have HR301_4 := Aside0.mk hi301_4; have HC301_4 := Aside0.mk hl301_4; clear hi301_4 hl301_4; replace hx301_0 := (cell_far (p := ⟨gb299, 0, none⟩) (by first | (rw [add_block]; exact hn301_0) | (show (Addr.add _ _).block ≠ _; rw [add_block]; exact hn301_0) | exact hn301_0) (.int .i64 ((rd_T141 l0 a2).f0))).trans hx301_0; replace hx301_1 := (cell_far (p := ⟨gb299, 0, none⟩) (by first | (rw [add_block]; exact hn301_0) | (show (Addr.add _ _).block ≠ _; rw [add_block]; exact hn301_0) | exact hn301_0) (.int .i64 ((rd_T141 l0 a2).f0))).trans hx301_1; replace hx301_2 := (cell_far (p := ⟨gb299, 0, none⟩) (by first | (rw [add_block]; exact hn301_0) | (show (Addr.add _ _).block ≠ _; rw [add_block]; exact hn301_0) | exact hn301_0) (.int .i64 ((rd_T141 l0 a2).f0))).trans hx301_2; replace hx301_3 := (cell_far (p := ⟨gb299, 0, none⟩) (by first | (rw [add_block]; exact hn301_0) | (show (Addr.add _ _).block ≠ _; rw [add_block]; exact hn301_0) | exact hn301_0) (.int .i64 ((rd_T141 l0 a2).f0))).trans hx301_3; replace hx301_4 := (cell_far (p := ⟨gb299, 0, none⟩) (by first | (rw [add_block]; exact hn301_0) | (show (Addr.add _ _).block ≠ _; rw [add_block]; exact hn301_0) | exact hn301_0) (.int .i64 ((rd_T141 l0 a2).f0))).trans hx301_4; replace hx301_0 := (cell_far (p := ⟨gb299, 1, none⟩) (by first | (rw [add_block]; exact hn301_1) | (show (Addr.add _ _).block ≠ _; rw [add_block]; exact hn301_1) | exact hn301_1) (.int .i64 ((rd_T141 l0 a2).f1))).trans hx301_0; replace hx301_1 := (cell_far (p := ⟨gb299, 1, none⟩) (by first | (rw [add_block]; exact hn301_1) | (show (Addr.add _ _).block ≠ _; rw [add_block]; exact hn301_1) | exact hn301_1) (.int .i64 ((rd_T141 l0 a2).f1))).trans hx301_1; replace hx301_2 := (cell_far (p := ⟨gb299, 1, none⟩) (by first | (rw [add_block]; exact hn301_1) | (show (Addr.add _ _).block ≠ _; rw [add_block]; exact hn301_1) | exact hn301_1) (.int .i64 ((rd_T141 l0 a2).f1))).trans hx301_2; replace hx301_3 := (cell_far (p := ⟨gb299, 1, none⟩) (by first | (rw [add_block]; exact hn301_1) | (show (Addr.add _ _).block ≠ _; rw [add_block]; exact hn301_1) | exact hn301_1) (.int .i64 ((rd_T141 l0 a2).f1))).trans hx301_3; replace hx301_4 := (cell_far (p := ⟨gb299, 1, none⟩) (by first | (rw [add_block]; exact hn301_1) | (show (Addr.add _ _).block ≠ _; rw [add_block]; exact hn301_1) | exact hn301_1) (.int .i64 ((rd_T141 l0 a2).f1))).trans hx301_4; replace hx301_0 := (cell_far (p := ⟨gb299, 2, none⟩) (by first | (rw [add_block]; exact hn301_2) | (show (Addr.add _ _).block ≠ _; rw [add_block]; exact hn301_2) | exact hn301_2) (.int .i64 ((rd_T141 l0 a2).f2))).trans hx301_0; replace hx301_1 := (cell_far (p := ⟨gb299, 2, none⟩) (by first | (rw [add_block]; exact hn301_2) | (show (Addr.add _ _).block ≠ _; rw [add_block]; exact hn301_2) | exact hn301_2) (.int .i64 ((rd_T141 l0 a2).f2))).trans hx301_1; replace hx301_2 := (cell_far (p := ⟨gb299, 2, none⟩) (by first | (rw [add_block]; exact hn301_2) | (show (Addr.add _ _).block ≠ _; rw [add_block]; exact hn301_2) | exact hn301_2) (.int .i64 ((rd_T141 l0 a2).f2))).trans hx301_2; replace hx301_3 := (cell_far (p := ⟨gb299, 2, none⟩) (by first | (rw [add_block]; exact hn301_2) | (show (Addr.add _ _).block ≠ _; rw [add_block]; exact hn301_2) | exact hn301_2) (.int .i64 ((rd_T141 l0 a2).f2))).trans hx301_3; replace hx301_4 := (cell_far (p := ⟨gb299, 2, none⟩) (by first | (rw [add_block]; exact hn301_2) | (show (Addr.add _ _).block ≠ _; rw [add_block]; exact hn301_2) | exact hn301_2) (.int .i64 ((rd_T141 l0 a2).f2))).trans hx301_4; clear hn301_0; clear hn301_1; clear hn301_2; replace p301 := eq_true p301; replace q301 := eq_true q301) | ((with_reducible refine gate_dst (N := 8) rfl ?_); refine bx (N := 8) (cs := #[.int .i64 0, .int .i64 0, .slice none 0 0, .int .i64 0, .slice none 0 0]) (t := 145) ?_; intro gb302 hg w45 hbox hb; have BK302 := Aside0.mk (hbox); have GE302 := Aside0.mk (ge_ hg HB); replace HB := bs HB hb; have NB299_302 := Aside0.mk ((by rw [hg]; exact Nat.ne_of_lt (blk_lt (g := gb299) (o := .cells #[.int .i64 ((rd_T141 l0 a2).f0), .int .i64 ((rd_T141 l0 a2).f1), .int .i64 ((rd_T141 l0 a2).f2)] 141 (0, 0)) (by (with_reducible repeat (first | refine blk_drewN ?_ _ | refine blk_drew ?_ | refine blk_alloc ?_ _)); refine blk_put (cs := #[.int .i64 ((rd_T141 l0 a2).f0), .int .i64 ((rd_T141 l0 a2).f1), .int .i64 0]) ?_ 2 _ rfl; (with_reducible repeat (first | refine blk_drewN ?_ _ | refine blk_drew ?_ | refine blk_alloc ?_ _)); refine blk_put (cs := #[.int .i64 ((rd_T141 l0 a2).f0), .int .i64 0, .int .i64 0]) ?_ 1 _ rfl; (with_reducible repeat (first | refine blk_drewN ?_ _ | refine blk_drew ?_ | refine blk_alloc ?_ _)); refine blk_put (cs := #[.int .i64 0, .int .i64 0, .int .i64 0]) ?_ 0 _ rfl; (with_reducible repeat (first | refine blk_drewN ?_ _ | refine blk_drew ?_ | refine blk_alloc ?_ _)); exact BK299.out)) : gb299 ≠ gb302)); have NB302_299 := Aside0.mk ((by rw [hg]; exact Nat.ne_of_gt (blk_lt (g := gb299) (o := .cells #[.int .i64 ((rd_T141 l0 a2).f0), .int .i64 ((rd_T141 l0 a2).f1), .int .i64 ((rd_T141 l0 a2).f2)] 141 (0, 0)) (by (with_reducible repeat (first | refine blk_drewN ?_ _ | refine blk_drew ?_ | refine blk_alloc ?_ _)); refine blk_put (cs := #[.int .i64 ((rd_T141 l0 a2).f0), .int .i64 ((rd_T141 l0 a2).f1), .int .i64 0]) ?_ 2 _ rfl; (with_reducible repeat (first | refine blk_drewN ?_ _ | refine blk_drew ?_ | refine blk_alloc ?_ _)); refine blk_put (cs := #[.int .i64 ((rd_T141 l0 a2).f0), .int .i64 0, .int .i64 0]) ?_ 1 _ rfl; (with_reducible repeat (first | refine blk_drewN ?_ _ | refine blk_drew ?_ | refine blk_alloc ?_ _)); refine blk_put (cs := #[.int .i64 0, .int .i64 0, .int .i64 0]) ?_ 0 _ rfl; (with_reducible repeat (first | refine blk_drewN ?_ _ | refine blk_drew ?_ | refine blk_alloc ?_ _)); exact BK299.out)) : gb302 ≠ gb299)); replace BK299 := Aside0.mk (blk_below (g := gb299) (o := .cells #[.int .i64 ((rd_T141 l0 a2).f0), .int .i64 ((rd_T141 l0 a2).f1), .int .i64 ((rd_T141 l0 a2).f2)] 141 (0, 0)) (by (with_reducible repeat (first | refine blk_drewN ?_ _ | refine blk_drew ?_ | refine blk_alloc ?_ _)); refine blk_put (cs := #[.int .i64 ((rd_T141 l0 a2).f0), .int .i64 ((rd_T141 l0 a2).f1), .int .i64 0]) ?_ 2 _ rfl; (with_reducible repeat (first | refine blk_drewN ?_ _ | refine blk_drew ?_ | refine blk_alloc ?_ _)); refine blk_put (cs := #[.int .i64 ((rd_T141 l0 a2).f0), .int .i64 0, .int .i64 0]) ?_ 1 _ rfl; (with_reducible repeat (first | refine blk_drewN ?_ _ | refine blk_drew ?_ | refine blk_alloc ?_ _)); refine blk_put (cs := #[.int .i64 0, .int .i64 0, .int .i64 0]) ?_ 0 _ rfl; (with_reducible repeat (first | refine blk_drewN ?_ _ | refine blk_drew ?_ | refine blk_alloc ?_ _)); exact BK299.out) hb); clear hb hbox hg; have hnb46 := NB302_299.out; have hnc46 := NB299_302.out; obtain ⟨hcz47_0, hcz47_1, hcz47_2, hcz47_3, hcz47_4, hfz47_0, hfz47_1, hfz47_2, hfz47_3, hfz47_4⟩ := cs5_ BK302) | ((with_reducible refine gate_callee (f := 156) rfl ?_); refine goesL_ (some 41) rfl rfl Try.func156 (by kernel_rfl) rfl #[.agg #[.int .i64 ((rd_T145 l1 (ji13)).f0), .int .i64 ((rd_T145 l1 (ji13)).f1), .slice A301_2 ((rd_T145 l1 (ji13)).f2).length c301_2, .int .i64 ((rd_T145 l1 (ji13)).f3.f0), .slice A301_4 ((rd_T145 l1 (ji13)).f3.f1).length c301_4], .int .i64 a2] rfl (by (try simp only [List.map_toArray, List.map_cons, List.map_nil]); first | done | (simp only [hji13]; rfl) | rfl | (simp only [List.length_drop, List.length_take]; rfl)) ?_; (with_reducible refine (spec_Entries.calls k ((rd_T145 l1 (ji13)).f0) ((rd_T145 l1 (ji13)).f1) _ _ ((rd_T145 l1 (ji13)).f2) ((rd_T145 l1 (ji13)).f3.f0) _ _ ((rd_T145 l1 (ji13)).f3.f1) a2 t303 t304 t305 t306 _ ?side1 ?side2 ?side3 ?side4 A16.out).mono ?_); (case side1 => exact Kd.C_below HR301_2.out (tb HB)); (case side2 => exact HC301_2.out); (case side3 => exact Kd.C_below HR301_4.out (tb HB)); (case side4 => exact HC301_4.out); rintro e w48 ⟨rfl, hb⟩; refine ⟨_, rfl, ?_⟩; replace BK299 := Aside0.mk (blk_below (g := gb299) (o := .cells #[.int .i64 ((rd_T141 l0 a2).f0), .int .i64 ((rd_T141 l0 a2).f1), .int .i64 ((rd_T141 l0 a2).f2)] 141 (0, 0)) (bf BK299) hb); replace BK302 := Aside0.mk (blk_below (g := gb302) (o := .cells #[.int .i64 ((rd_T145 l1 (ji13)).f0), .int .i64 ((rd_T145 l1 (ji13)).f1), .slice A301_2 ((rd_T145 l1 (ji13)).f2).length c301_2, .int .i64 ((rd_T145 l1 (ji13)).f3.f0), .slice A301_4 ((rd_T145 l1 (ji13)).f3.f1).length c301_4] 145 (0, 0)) (by (with_reducible repeat (first | refine blk_drewN ?_ _ | refine blk_drew ?_ | refine blk_alloc ?_ _)); refine blk_put (cs := #[.int .i64 ((rd_T145 l1 (ji13)).f0), .int .i64 ((rd_T145 l1 (ji13)).f1), .slice A301_2 ((rd_T145 l1 (ji13)).f2).length c301_2, .int .i64 ((rd_T145 l1 (ji13)).f3.f0), .slice none 0 0]) ?_ 4 _ rfl; (with_reducible repeat (first | refine blk_drewN ?_ _ | refine blk_drew ?_ | refine blk_alloc ?_ _)); refine blk_put (cs := #[.int .i64 ((rd_T145 l1 (ji13)).f0), .int .i64 ((rd_T145 l1 (ji13)).f1), .slice A301_2 ((rd_T145 l1 (ji13)).f2).length c301_2, .int .i64 0, .slice none 0 0]) ?_ 3 _ rfl; (with_reducible repeat (first | refine blk_drewN ?_ _ | refine blk_drew ?_ | refine blk_alloc ?_ _)); refine blk_put (cs := #[.int .i64 ((rd_T145 l1 (ji13)).f0), .int .i64 ((rd_T145 l1 (ji13)).f1), .slice none 0 0, .int .i64 0, .slice none 0 0]) ?_ 2 _ rfl; (with_reducible repeat (first | refine blk_drewN ?_ _ | refine blk_drew ?_ | refine blk_alloc ?_ _)); refine blk_put (cs := #[.int .i64 ((rd_T145 l1 (ji13)).f0), .int .i64 0, .slice none 0 0, .int .i64 0, .slice none 0 0]) ?_ 1 _ rfl; (with_reducible repeat (first | refine blk_drewN ?_ _ | refine blk_drew ?_ | refine blk_alloc ?_ _)); refine blk_put (cs := #[.int .i64 0, .int .i64 0, .slice none 0 0, .int .i64 0, .slice none 0 0]) ?_ 0 _ rfl; (with_reducible repeat (first | refine blk_drewN ?_ _ | refine blk_drew ?_ | refine blk_alloc ?_ _)); exact BK302.out) hb); replace HB := bs HB hb; (try clear hb); (try clear hb2); (try clear hk); (try clear hi)) | ((with_reducible refine gate_dst (N := 9) rfl ?_); refine bx (N := 9) (cs := #[.int .i64 0, .int .i64 0, .int .i64 0]) (t := 166) ?_; intro gb307 hg w49 hbox hb; have BK307 := Aside0.mk (hbox); have GE307 := Aside0.mk (ge_ hg HB); replace HB := bs HB hb; have NB299_307 := Aside0.mk (nl_ hg BK299); have NB307_299 := Aside0.mk (ng_ hg BK299); replace BK299 := bb BK299 hb; have NB302_307 := Aside0.mk (nl_ hg BK302); have NB307_302 := Aside0.mk (ng_ hg BK302); replace BK302 := bb BK302 hb; clear hb hbox hg; have hnb50 := NB307_299.out; have hnc50 := NB299_307.out; have hnb51 := NB307_302.out; have hnc51 := NB302_307.out; obtain ⟨hcz52_0, hcz52_1, hcz52_2, hfz52_0, hfz52_1, hfz52_2⟩ := cs3_ BK307; obtain ⟨hcz53_0, hcz53_1, hcz53_2, hcz53_3, hcz53_4, hfz53_0, hfz53_1, hfz53_2, hfz53_3, hfz53_4⟩ := cs5_ BK302; obtain ⟨hcz54_0, hcz54_1, hcz54_2, hfz54_0, hfz54_1, hfz54_2⟩ := cs3_ BK299))
         go_ret
         exact ⟨by first | rfl | (simp [errW_none, errW_some] <;> rfl) | (simp only [← hji13]; first | rfl | (simp [errW_none, errW_some] <;> rfl)) | (simp [*, errW_none, errW_some] <;> rfl), tb HB⟩
       ·rw [if_neg c15] at H
        exact absurd H (by simp)
      ·rw [if_neg c14] at H
       exact absurd H (by simp)
     ·replace c12 := Bool.eq_false_iff.mpr c12
      subst c12
      have H1 : (some 0) = some r := by rw [if_neg (show ¬ (false = true) by decide)] at H; exact H
      clear H
      have H := H1
      clear H1
      obtain rfl := Option.some.inj H
      go_enter Try.func96, Try.ntmps96
      go_wp2_with (first | ((with_reducible refine gate_callee (f := 79) rfl ?_); refine gL 15 Try.func79 #[.int .i64 a2, .int .i64 0, .int .i64 (wrap64 ((l0.length : Int) - 1))] ?_; (with_reducible refine (spec_l1In.calls a2 0 (wrap64 ((l0.length : Int) - 1)) true _ A4.out).mono ?_); rintro e w' ⟨rfl, ⟨nd, rfl⟩⟩; refine ⟨_, rfl, ?_⟩; have p298 : 0 ≤ (a2 : Int) := od; have q298 : a2 < (l0.length : Int) := od; obtain ⟨ad298, e298, hx298_0, hx298_1, hx298_2⟩ := at_T141 HR0.out a2 p298 q298; cases e298; replace p298 := eq_true p298; replace q298 := eq_true q298) | ((with_reducible refine gate_dst (N := 7) rfl ?_); refine bx (N := 7) (cs := #[.int .i64 0, .int .i64 0, .int .i64 0]) (t := 141) ?_; intro gb299 hg w55 hbox hb; have BK299 := Aside0.mk (hbox); have GW299 := Aside0.mk (ge_ hg HB); have GE299 := Aside0.mk (ge_ hg HB); replace HB := bs HB hb; clear hb hbox hg; obtain ⟨hcz56_0, hcz56_1, hcz56_2, hfz56_0, hfz56_1, hfz56_2⟩ := cs3_ BK299) | ((with_reducible refine gate_callee (f := 79) rfl ?_); refine gL 30 Try.func79 #[.int .i64 ((rd_T141 l0 a2).f1), .int .i64 1, .int .i64 (l1.length : Int)] ?_; (with_reducible refine (spec_l1In.calls ((rd_T141 l0 a2).f1) 1 (l1.length : Int) false _ A11.out).mono ?_); rintro e w' ⟨rfl, ⟨nd, rfl⟩⟩; refine ⟨_, rfl, ?_⟩))
      go_ret
      exact ⟨er, tb HB⟩
   ·rw [if_neg c7] at H
    exact absurd H (by simp)
  ·rw [if_neg c6] at H
   exact absurd H (by simp)
 ·replace c5 := Bool.eq_false_iff.mpr c5
  subst c5
  have H1 : (some 0) = some r := by rw [if_neg (show ¬ (false = true) by decide)] at H; exact H
  clear H
  have H := H1
  clear H1
  obtain rfl := Option.some.inj H
  go_enter Try.func96, Try.ntmps96
  go_wp2_with (first | ((with_reducible refine gate_callee (f := 79) rfl ?_); refine gL 15 Try.func79 #[.int .i64 a2, .int .i64 0, .int .i64 (wrap64 ((l0.length : Int) - 1))] ?_; (with_reducible refine (spec_l1In.calls a2 0 (wrap64 ((l0.length : Int) - 1)) false _ A4.out).mono ?_); rintro e w' ⟨rfl, ⟨nd, rfl⟩⟩; refine ⟨_, rfl, ?_⟩))
  go_ret
  exact ⟨er, tb HB⟩
def spec_Meaning.l0 : Nat → List (S141) → List (S145) → List Int → Int → Option (List Int)
 | 0, _, _, _, _ => none
 | k + 1, x0, x1, x5, x6 => if x6 < (x0.length : Int) then ((spec_ValueAt.f k x0 x1 x6).bind fun t311 => (if x5.length < 17592186044416 then (spec_Meaning.l0 k x0 x1 (x5 ++ [t311]) (wrap64 (x6 + 1))) else (none))) else (some x5)
def spec_Meaning.f (k : Nat) (l0 : List (S141)) (l1 : List (S145)) : Option (List Int) := spec_Meaning.l0 k l0 l1 (([] : List Int)) 0
theorem spec_Meaning.mono_l : ∀ k, (∀ y0 y1 y2 y3, LeO (spec_Meaning.l0 k y0 y1 y2 y3) (spec_Meaning.l0 (k + 1) y0 y1 y2 y3))
 | 0 => fun _ _ _ _ r h => by simp [spec_Meaning.l0] at h
 | k + 1 => by
  have ih0 := spec_Meaning.mono_l k
  ·intro y0 y1 y2 y3
   unfold spec_Meaning.l0
   repeat' first
   | (with_reducible exact ih0 _ _ _ _)
   | (with_reducible exact spec_ValueAt.mono _ _ _ _)
   | (with_reducible exact LeO.refl _)
   | (with_reducible exact LeO.none _)
   | (with_reducible refine LeO.ite ?_ ?_)
   | (with_reducible refine LeO.bind ?_ (fun _ => ?_))
   | exact ih0 _ _ _ _
   | exact spec_ValueAt.mono _ _ _ _
   | exact LeO.none _
   | refine LeO.ite ?_ ?_
   | refine LeO.bind ?_ (fun _ => ?_)
theorem spec_Meaning.mono : ∀ a0 a1 k, LeO (spec_Meaning.f k a0 a1) (spec_Meaning.f (k + 1) a0 a1) := by
 intro a0 a1 k
 have ih0 := spec_Meaning.mono_l k
 unfold spec_Meaning.f
 repeat' first
   | (with_reducible exact ih0 _ _ _ _)
   | (with_reducible exact spec_ValueAt.mono _ _ _ _)
   | (with_reducible exact LeO.refl _)
   | (with_reducible exact LeO.none _)
   | (with_reducible refine LeO.ite ?_ ?_)
   | (with_reducible refine LeO.bind ?_ (fun _ => ?_))
   | exact ih0 _ _ _ _
   | exact spec_ValueAt.mono _ _ _ _
   | exact LeO.none _
   | refine LeO.ite ?_ ?_
   | refine LeO.bind ?_ (fun _ => ?_)
set_option maxHeartbeats 8000000 in
set_option maxRecDepth 100000 in
theorem spec_Meaning.calls (k : Nat) (A0 : Option Addr) (c0 : Nat) (l0 : List (S141)) (A1 : Option Addr) (c1 : Nat) (l1 : List (S145)) (r : List Int) (w : World) (hr0 : Kd.C k141 w A0 l0.length l0) (hc0 : l0.length ≤ c0) (hr1 : Kd.C k145 w A1 l1.length l1) (hc1 : l1.length ≤ c1) (h : spec_Meaning.f k l0 l1 = some r) :
  Calls Try.prog 22 #[.slice A0 l0.length c0, .slice A1 l1.length c1] w fun e w' => ∃ v0_ : Value, e = .returned (v0_) ∧ Kd.R (Kd.int .i64) 3 w' w.heap.size (fun _ => True) v0_ r ∧ Below w.heap.size w w' := by
 have HR0 := Aside0.mk hr0
 have HC0 := Aside0.mk hc0
 clear hr0 hc0
 have HR1 := Aside0.mk hr1
 have HC1 := Aside0.mk hc1
 clear hr1 hc1
 have HB := Aside0.mk (Below.refl w.heap.size w)
 have H : (spec_Meaning.l0 k l0 l1 (([] : List Int)) 0) = some r := h
 clear h
 obtain ⟨y308, hy308⟩ : ∃ y_ : List Int, y_ = (([] : List Int)) := ⟨_, rfl⟩
 replace H : (spec_Meaning.l0 k l0 l1 y308 0) = some r := by first | (rw [hy308]; with_reducible exact H) | (have H2_ := (Option.bind_some _ _).symm.trans H; rw [hy308]; with_reducible exact H2_) | (have H2_ := (Option.bind_some _ _).symm.trans H; with_reducible exact H2_) | with_reducible exact H | (rw [hy308]; exact H) | exact H
 have Ny308 := Aside0.mk hy308
 clear hy308
 have H' := Aside0.mk H
 clear H
 go_enter Try.func22, Try.ntmps22
 go_wp2_with (first | ((with_reducible refine gate_dst (N := 7) rfl ?_); refine Kd.R_lit (Kd.int .i64) _ 3 ?hg (N := 7) ?hd (xs := ([] : List Int)) (inner := []) (ok := fun _ => True) (okp := fun _ => True) ?hr ?hp (fun _ hk => hk) trivial (Below.refl _ _) (Nat.le_refl _) (by simp) ?_; (case hd => rfl); (case hg => rfl); (case hr => first | (go_simp; done) | (go_simp; rfl)); (case hp => exact (Reps.none _ _)); intro v309 w3 ho4 hb hg_ hnew_; clear hg_ hnew_; (first | rw [← Ny308.out] at ho4 | (simp only [Int.reduceToNat] at ho4; rw [← Ny308.out] at ho4)); have HO310 := Aside0.mk (Kd.R_lower ho4 (below_size (tb HB))); replace HB := bs HB hb; clear hb ho4))
 go_loopg [5, 6] k (fun kq v5 v6 w' => ∃ (x5_1 : List Int) (x6_1 : Int), v6 = .int .i64 x6_1 ∧ Aside0 (spec_Meaning.l0 kq l0 l1 x5_1 x6_1 = some r) ∧ Aside0 (kq ≤ k) ∧ Aside0 (Kd.R (Kd.int .i64) 3 w' w.heap.size (fun _ => True) v5 x5_1) ∧ Aside0 (Below w.heap.size w w'))
 case atStart => exact ⟨(y308), (0), (by first | rfl | (simp; done) | (simp [*]; done)), H', ⟨Nat.le_refl _⟩, ⟨kr HO310.out⟩, ⟨tb HB⟩⟩
 case round =>
  clear H'
  try clear c1
  try clear c2
  try clear p2
  obtain ⟨x5_1, x6_1, rfl, HA, HK1, HO_5, HB⟩ := hrel
  cases gk with
  | zero => exact absurd HA.out (by simp [spec_Meaning.l0])
  | succ k1 =>
   have H := HA.out
   clear HA
   simp only [spec_Meaning.l0] at H
   by_cases c5 : x6_1 < (l0.length : Int)
   ·rw [if_pos c5] at H
    have c5b0 := decide_eq_true c5
    clear c5
    replace H := Option.bind_eq_some_iff.mp H
    obtain ⟨t311, A60, H⟩ := H
    replace H : (if x5_1.length < 17592186044416 then (spec_Meaning.l0 k1 l0 l1 (x5_1 ++ [t311]) (wrap64 (x6_1 + 1))) else (none)) = some r := H
    have A6 := Aside0.mk A60
    clear A60
    by_cases c7 : x5_1.length < 17592186044416
    ·rw [if_pos c7] at H
     have LMc7 := Aside0.mk c7
     clear c7
     obtain ⟨y312, hy312⟩ : ∃ y_ : List Int, y_ = (x5_1 ++ [t311]) := ⟨_, rfl⟩
     replace H : (spec_Meaning.l0 k1 l0 l1 y312 (wrap64 (x6_1 + 1))) = some r := by first | (rw [hy312]; with_reducible exact H) | (have H2_ := (Option.bind_some _ _).symm.trans H; rw [hy312]; with_reducible exact H2_) | (have H2_ := (Option.bind_some _ _).symm.trans H; with_reducible exact H2_) | with_reducible exact H | (rw [hy312]; exact H) | exact H
     have Ny312 := Aside0.mk hy312
     clear hy312
     have H' := Aside0.mk H
     clear H
     go_wp2_with (first | ((with_reducible refine gate_callee (f := 96) rfl ?_); refine gL 18 Try.func96 #[.slice A0 l0.length c0, .slice A1 l1.length c1, .int .i64 x6_1] ?_; (with_reducible refine (spec_ValueAt.calls k1 _ _ l0 _ _ l1 x6_1 t311 _ ?side1 ?side2 ?side3 ?side4 A6.out).mono ?_); (case side1 => exact kc HR0 HB); (case side2 => exact HC0.out); (case side3 => exact kc HR1 HB); (case side4 => exact HC1.out); rintro e w8 ⟨rfl, hb⟩; refine ⟨_, rfl, ?_⟩; replace HO_5 := rb HO_5 hb; replace HB := bs HB hb; (try clear hb); (try clear hb2); (try clear hk); (try clear hi)) | ((with_reducible refine gate_builtin (b := .append) (xs := #[.tmp 14, .tmp 19]) rfl ?_); at_builtin; refine Kd.R_append (Kd.int .i64) (w0 := w) w.heap.size rfl (.tmp 14) (.tmp 19) 22 3 (.int .i64 0) 8 rfl Try.underlying22 info3 rfl (by decide) (by omega) u5 x5_1 t311 [.int .i64 t311] (fun _ => True) (fun _ => False) rfl rfl ?aP (fun _ hk => hk.elim) ?aF ?aO ?aB ?aS ?aL ?_; (case aP => exact rfl); (case aB => exact (tb HB)); (case aF => exact (fun _ _ => trivial)); (case aO => exact (kr HO_5.out)); (case aS => exact (below_size (tb HB))); (case aL => have := LMc7.out; omega); intro v313 w9 ho hb hg hat; rw [← Ny312.out] at ho; replace HB := Aside0.mk (hb); have HO314 := Aside0.mk (ho); clear HO_5; clear ho hb hg hat))
     go_roundg k1
     case measure => have := HK1.out; omega
     case rel => exact ⟨(y312), (wrap64 (x6_1 + 1)), (by first | rfl | (simp; done) | (simp [*]; done)), H', ⟨by have := HK1.out; omega⟩, ⟨kr HO314.out⟩, ⟨tb HB⟩⟩
    ·rw [if_neg c7] at H
     exact absurd H (by simp)
   ·rw [if_neg c5] at H
    have c5b0 := decide_eq_false c5
    clear c5
    obtain rfl := Option.some.inj H
    go_wp2
    go_ret
    exact ⟨_, er, kr HO_5.out, tb HB⟩
def laws_toWord.f (a0_0 : Int) (a0_1 : Int) (a0_2 : Int) : Option (Int × Int × Int) := some (a0_0, a0_1, a0_2)
set_option maxHeartbeats 8000000 in
set_option maxRecDepth 100000 in
theorem laws_toWord.calls (a0_0 : Int) (a0_1 : Int) (a0_2 : Int) (r1 : Int) (r2 : Int) (r3 : Int) (w : World) (h : laws_toWord.f a0_0 a0_1 a0_2 = some (r1, r2, r3)) :
  Calls Try.prog 97 #[.agg #[.int .i64 a0_0, .int .i64 a0_1, .int .i64 a0_2]] w fun e w' => e = .returned (.agg #[.int .i64 r1, .int .i64 r2, .int .i64 r3]) ∧ Below w.heap.size w w' := by
 have hu143 := Try.underlying143
 have hu141 := Try.underlying141
 have HB := Aside0.mk (Below.refl w.heap.size w)
 have H : (some (a0_0, a0_1, a0_2)) = some (r1, r2, r3) := h
 clear h
 simp only [Option.some.injEq, Prod.mk.injEq] at H
 obtain ⟨rfl, rfl, rfl⟩ := H
 go_enter Try.func97, Try.ntmps97
 go_wp2_with (first | ((with_reducible refine gate_dst (N := 1) rfl ?_); refine bx (N := 1) (cs := #[.int .i64 a0_0, .int .i64 a0_1, .int .i64 a0_2]) (t := 143) ?_; intro gb315 hg w2 hbox hb; have BK315 := Aside0.mk (hbox); have GE315 := Aside0.mk (ge_ hg HB); replace HB := bs HB hb; clear hb hbox hg) | ((with_reducible refine gate_dst (N := 2) rfl ?_); refine bx (N := 2) (cs := #[.int .i64 0, .int .i64 0, .int .i64 0]) (t := 141) ?_; intro gb316 hg w3 hbox hb; have BK316 := Aside0.mk (hbox); have GE316 := Aside0.mk (ge_ hg HB); replace HB := bs HB hb; have NB315_316 := Aside0.mk (nl_ hg BK315); have NB316_315 := Aside0.mk (ng_ hg BK315); replace BK315 := bb BK315 hb; clear hb hbox hg) | ((with_reducible refine gate_dst (N := 3) rfl ?_); refine bx (N := 3) (cs := #[.int .i64 0, .int .i64 0, .int .i64 0]) (t := 141) ?_; intro gb317 hg w4 hbox hb; have BK317 := Aside0.mk (hbox); have GE317 := Aside0.mk (ge_ hg HB); replace HB := bs HB hb; have NB315_317 := Aside0.mk (nl_ hg BK315); have NB317_315 := Aside0.mk (ng_ hg BK315); replace BK315 := bb BK315 hb; have NB316_317 := Aside0.mk (nl_ hg BK316); have NB317_316 := Aside0.mk (ng_ hg BK316); replace BK316 := bb BK316 hb; clear hb hbox hg; have hnb5 := NB315_316.out; have hnc5 := NB316_315.out; have hnb6 := NB315_317.out; have hnc6 := NB317_315.out; obtain ⟨hcz7_0, hcz7_1, hcz7_2, hfz7_0, hfz7_1, hfz7_2⟩ := cs3_ BK315; have hnb8 := NB317_316.out; have hnc8 := NB316_317.out; obtain ⟨hcz9_0, hcz9_1, hcz9_2, hfz9_0, hfz9_1, hfz9_2⟩ := cs3_ BK317; obtain ⟨hcz10_0, hcz10_1, hcz10_2, hfz10_0, hfz10_1, hfz10_2⟩ := cs3_ BK316))
 refine bodyPost_ret (results_cell_row rfl _ _ gb316 141 #[.int .i64 a0_0, .int .i64 a0_1, .int .i64 a0_2] (0, 0) _ rfl (by (with_reducible repeat (first | refine blk_drewN ?_ _ | refine blk_drew ?_ | refine blk_alloc ?_ _)); refine blk_put (cs := #[.int .i64 a0_0, .int .i64 a0_1, .int .i64 0]) ?_ 2 _ rfl; (with_reducible repeat (first | refine blk_drewN ?_ _ | refine blk_drew ?_ | refine blk_alloc ?_ _)); refine blk_put (cs := #[.int .i64 a0_0, .int .i64 0, .int .i64 0]) ?_ 1 _ rfl; (with_reducible repeat (first | refine blk_drewN ?_ _ | refine blk_drew ?_ | refine blk_alloc ?_ _)); refine blk_put (cs := #[.int .i64 0, .int .i64 0, .int .i64 0]) ?_ 0 _ rfl; (with_reducible repeat (first | refine blk_drewN ?_ _ | refine blk_drew ?_ | refine blk_alloc ?_ _)); refine blk_far ?_ NB316_317.out _; (with_reducible repeat (first | refine blk_drewN ?_ _ | refine blk_drew ?_ | refine blk_alloc ?_ _)); refine blk_far ?_ NB316_317.out _; (with_reducible repeat (first | refine blk_drewN ?_ _ | refine blk_drew ?_ | refine blk_alloc ?_ _)); refine blk_far ?_ NB316_317.out _; (with_reducible repeat (first | refine blk_drewN ?_ _ | refine blk_drew ?_ | refine blk_alloc ?_ _)); exact BK316.out) Try.underlying141 rfl (by kernel_rfl)) rfl ?_
 exact ⟨er, tb HB⟩
def laws_toWordS.l0 : Nat → List (S143) → List (S141) → Int → Option ((List (S141)))
 | 0, _, _, _ => none
 | k + 1, x0, x3, x4 => if x4 < (x0.length : Int) then (if 0 ≤ x4 then ((laws_toWord.f ((rd_T143 x0 x4).f0) ((rd_T143 x0 x4).f1) ((rd_T143 x0 x4).f2)).bind fun bt322 => (if x4 < (x3.length : Int) then (laws_toWordS.l0 k x0 (x3.set (x4 : Int).toNat (⟨bt322.1, bt322.2.1, bt322.2.2⟩ : S141)) (wrap64 (x4 + 1))) else (none))) else (none)) else (some x3)
def laws_toWordS.f (k : Nat) (l0 : List (S143)) : Option ((List (S141))) := if 0 ≤ (l0.length : Int) then (if ((l0.length : Int) : Int).toNat ≤ 11728124029610 then (laws_toWordS.l0 k l0 (List.replicate ((l0.length : Int) : Int).toNat z141) 0) else (none)) else (none)
theorem laws_toWordS.mono_l : ∀ k, (∀ y0 y1 y2, LeO (laws_toWordS.l0 k y0 y1 y2) (laws_toWordS.l0 (k + 1) y0 y1 y2))
 | 0 => fun _ _ _ r h => by simp [laws_toWordS.l0] at h
 | k + 1 => by
  have ih0 := laws_toWordS.mono_l k
  ·intro y0 y1 y2
   unfold laws_toWordS.l0
   repeat' first
   | (with_reducible exact ih0 _ _ _)
   | (with_reducible exact LeO.refl _)
   | (with_reducible exact LeO.none _)
   | (with_reducible refine LeO.ite ?_ ?_)
   | (with_reducible refine LeO.bind ?_ (fun _ => ?_))
   | exact ih0 _ _ _
   | exact LeO.none _
   | refine LeO.ite ?_ ?_
   | refine LeO.bind ?_ (fun _ => ?_)
theorem laws_toWordS.mono : ∀ a0 k, LeO (laws_toWordS.f k a0) (laws_toWordS.f (k + 1) a0) := by
 intro a0 k
 have ih0 := laws_toWordS.mono_l k
 unfold laws_toWordS.f
 repeat' first
   | (with_reducible exact ih0 _ _ _)
   | (with_reducible exact LeO.refl _)
   | (with_reducible exact LeO.none _)
   | (with_reducible refine LeO.ite ?_ ?_)
   | (with_reducible refine LeO.bind ?_ (fun _ => ?_))
   | exact ih0 _ _ _
   | exact LeO.none _
   | refine LeO.ite ?_ ?_
   | refine LeO.bind ?_ (fun _ => ?_)
set_option maxHeartbeats 8000000 in
set_option maxRecDepth 100000 in
theorem laws_toWordS.calls (k : Nat) (A0 : Option Addr) (c0 : Nat) (l0 : List (S143)) (r : List (S141)) (w : World) (hr0 : Kd.C k143 w A0 l0.length l0) (hc0 : l0.length ≤ c0) (h : laws_toWordS.f k l0 = some r) :
  Calls Try.prog 23 #[.slice A0 l0.length c0] w fun e w' => ∃ v0_ : Value, e = .returned (v0_) ∧ Kd.R k141 141 w' w.heap.size (fun _ => True) v0_ r ∧ Below w.heap.size w w' := by
 have hu143 := Try.underlying143
 have hu141 := Try.underlying141
 have HR0 := Aside0.mk hr0
 have HC0 := Aside0.mk hc0
 clear hr0 hc0
 have HB := Aside0.mk (Below.refl w.heap.size w)
 have H : (if 0 ≤ (l0.length : Int) then (if ((l0.length : Int) : Int).toNat ≤ 11728124029610 then (laws_toWordS.l0 k l0 (List.replicate ((l0.length : Int) : Int).toNat z141) 0) else (none)) else (none)) = some r := h
 clear h
 by_cases c2 : 0 ≤ (l0.length : Int)
 ·rw [if_pos c2] at H
  have c2b0 := eq_true c2
  have c2b1 := decide_eq_true c2
  clear c2
  by_cases c3 : ((l0.length : Int) : Int).toNat ≤ 11728124029610
  ·rw [if_pos c3] at H
   have c3b0 := eq_true c3
   have c3b1 := decide_eq_true c3
   clear c3
   obtain ⟨y318, hy318⟩ : ∃ y_ : List (S141), y_ = (List.replicate ((l0.length : Int) : Int).toNat z141) := ⟨_, rfl⟩
   replace H : (laws_toWordS.l0 k l0 y318 0) = some r := by first | (rw [hy318]; with_reducible exact H) | (have H2_ := (Option.bind_some _ _).symm.trans H; rw [hy318]; with_reducible exact H2_) | (have H2_ := (Option.bind_some _ _).symm.trans H; with_reducible exact H2_) | with_reducible exact H | (rw [hy318]; exact H) | exact H
   have Ny318 := Aside0.mk hy318
   clear hy318
   have H' := Aside0.mk H
   clear H
   go_enter Try.func23, Try.ntmps23
   go_wp2_with (first | ((with_reducible refine gate_dst (N := 7) rfl ?_); refine Kd.R_make k141 _ 141 rfl (N := 7) rfl 47 _ _ rfl (l0.length : Int) rfl rfl Try.underlying47 (.agg #[(.int .i64 0), (.int .i64 0), (.int .i64 0)]) 24 info141 rfl (by decide) (by omega) z141 (ok := fun _ => True) (okp := fun _ => True) (k141_mkM _ _ _ z141 ) (fun _ hk => hk) trivial (od) (Nat.le_trans (Nat.mul_le_mul_right _ (od : (l0.length : Int).toNat ≤ 11728124029610)) (by omega)) (Below.refl _ _) (Nat.le_refl _) ?_; intro v319 w4 ho5 hb hg_ hnew_; clear hg_ hnew_; (first | rw [← Ny318.out] at ho5 | (simp only [Int.reduceToNat] at ho5; rw [← Ny318.out] at ho5)); have HO320 := Aside0.mk (Kd.R_lower ho5 (below_size (tb HB))); replace HB := bs HB hb; clear hb ho5))
   go_loopg [4] k (fun kq v4 w' => ∃ (x3_1 : List (S141)) (x4_1 : Int), v4 = .int .i64 x4_1 ∧ Aside0 (laws_toWordS.l0 kq l0 x3_1 x4_1 = some r) ∧ Aside0 (kq ≤ k) ∧ Aside0 (Kd.R k141 141 w' w.heap.size (fun _ => True) v319 x3_1) ∧ Aside0 (Below w.heap.size w w'))
   case atStart => exact ⟨(y318), (0), (by first | rfl | (simp; done) | (simp [*]; done)), H', ⟨Nat.le_refl _⟩, ⟨kr HO320.out⟩, ⟨tb HB⟩⟩
   case round =>
    clear H'
    try clear c2
    try clear c2b0
    try clear c2b1
    try clear p2
    try clear c3
    try clear c3b0
    try clear c3b1
    obtain ⟨x3_1, x4_1, rfl, HA, HK1, HO_3, HB⟩ := hrel
    cases gk with
    | zero => exact absurd HA.out (by simp [laws_toWordS.l0])
    | succ k1 =>
     have H := HA.out
     clear HA
     simp only [laws_toWordS.l0] at H
     by_cases c6 : x4_1 < (l0.length : Int)
     ·rw [if_pos c6] at H
      have c6b0 := decide_eq_true c6
      clear c6
      by_cases c7 : 0 ≤ x4_1
      ·rw [if_pos c7] at H
       have c7b0 := decide_eq_true c7
       clear c7
       replace H := Option.bind_eq_some_iff.mp H
       obtain ⟨⟨t322, t323, t324⟩, A80, H⟩ := H
       replace H : (if x4_1 < (x3_1.length : Int) then (laws_toWordS.l0 k1 l0 (x3_1.set (x4_1 : Int).toNat (⟨t322, t323, t324⟩ : S141)) (wrap64 (x4_1 + 1))) else (none)) = some r := H
       have A8 := Aside0.mk A80
       clear A80
       by_cases c9 : x4_1 < (x3_1.length : Int)
       ·rw [if_pos c9] at H
        have c9b0 := decide_eq_true c9
        clear c9
        obtain ⟨y325, hy325⟩ : ∃ y_ : List (S141), y_ = (x3_1.set (x4_1 : Int).toNat (⟨t322, t323, t324⟩ : S141)) := ⟨_, rfl⟩
        replace H : (laws_toWordS.l0 k1 l0 y325 (wrap64 (x4_1 + 1))) = some r := by first | (rw [hy325]; with_reducible exact H) | (have H2_ := (Option.bind_some _ _).symm.trans H; rw [hy325]; with_reducible exact H2_) | (have H2_ := (Option.bind_some _ _).symm.trans H; with_reducible exact H2_) | with_reducible exact H | (rw [hy325]; exact H) | exact H
        have Ny325 := Aside0.mk hy325
        clear hy325
        have H' := Aside0.mk H
        clear H
        have p321 : 0 ≤ (x4_1 : Int) := od
        have q321 : x4_1 < (l0.length : Int) := od
        obtain ⟨ad321, e321, hx321_0, hx321_1, hx321_2⟩ := at_T143 HR0.out x4_1 p321 q321
        cases e321
        replace hx321_0 := ox HB hx321_0
        replace hx321_1 := ox HB hx321_1
        replace hx321_2 := ox HB hx321_2
        replace p321 := eq_true p321
        replace q321 := eq_true q321
        go_wp2_with (first | ((with_reducible refine gate_callee (f := 97) rfl ?_); refine gL 20 Try.func97 #[.agg #[.int .i64 ((rd_T143 l0 x4_1).f0), .int .i64 ((rd_T143 l0 x4_1).f1), .int .i64 ((rd_T143 l0 x4_1).f2)]] ?_; (with_reducible refine (laws_toWord.calls ((rd_T143 l0 x4_1).f0) ((rd_T143 l0 x4_1).f1) ((rd_T143 l0 x4_1).f2) t322 t323 t324 _ A8.out).mono ?_); rintro e w11 ⟨rfl, hb⟩; refine ⟨_, rfl, ?_⟩; replace HO_3 := rb HO_3 hb; replace HB := bs HB hb; (try clear hb); (try clear hb2); (try clear hk); (try clear hi); have p10 : 0 ≤ (x4_1 : Int) := od; have q10 : (x4_1 : Int) < ((x3_1.length : Int) : Int) := od; obtain ⟨go10, co10, eo10, gb10, gl10, cl10, HG10⟩ := Kd.R_form HO_3.out (by omega); (first | cases eo10 | (injection eo10 with ea_ en_ ec_; (first | subst ea_ | (injection ea_ with ea_; subst ea_)); subst ec_; clear en_)); have GB10 := Aside0.mk gb10; have GG10 := Aside0.mk HG10; clear gb10 gl10 HG10; obtain ⟨ce10, hcl10, hM10, hcc10, hfr10⟩ := Kd.R_elem HO_3.out z141 (x4_1 : Int) p10 q10; obtain rfl := k141_openM hM10; have hx10_0 : w11.cell? ⟨go10, (x4_1 : Int).toNat * 3, none⟩ = some (.int .i64 ((rd_T141 x3_1 x4_1).f0)) := hcc10 0 _ rfl; have hx10_1 : w11.cell? ⟨go10, (x4_1 : Int).toNat * 3 + 1, none⟩ = some (.int .i64 ((rd_T141 x3_1 x4_1).f1)) := hcc10 1 _ rfl; have hx10_2 : w11.cell? ⟨go10, (x4_1 : Int).toNat * 3 + 2, none⟩ = some (.int .i64 ((rd_T141 x3_1 x4_1).f2)) := hcc10 2 _ rfl; have hf10_0 : w11.frozen? ⟨go10, (x4_1 : Int).toNat * 3, none⟩ = false := hfr10 0; have hf10_1 : w11.frozen? ⟨go10, (x4_1 : Int).toNat * 3 + 1, none⟩ = false := hfr10 1; have hf10_2 : w11.frozen? ⟨go10, (x4_1 : Int).toNat * 3 + 2, none⟩ = false := hfr10 2; clear hcl10 hcc10 hfr10 hM10; replace p10 := eq_true p10; replace q10 := eq_true q10; have HX12 := Aside0.mk (show Kd.R k141 141 w11 w.heap.size (fun _ => True) (.slice (some ⟨go10, 0, none⟩) x3_1.length co10) x3_1 from (kr HO_3.out)); obtain ⟨ce12, hcl12, hM12, hcc12, hfr12⟩ := Kd.R_elem HX12.out z141 (x4_1 : Int) (od) (by have h_ : (x4_1 : Int) < ((x3_1.length : Int) : Int) := od; first | exact h_ | (have e_ := (Kd.R_reads' HO_3.out).1; omega) | simpa using h_); obtain rfl := k141_openM hM12; have HP12 := Kd.R_seg HX12.out (x4_1 : Int) (od) (by have h_ : (x4_1 : Int) < ((x3_1.length : Int) : Int) := od; first | exact h_ | (have e_ := (Kd.R_reads' HO_3.out).1; omega) | simpa using h_) (seg := [.int .i64 t322, .int .i64 t323, .int .i64 t324]) (j := 0) hcl12 hcc12 (show 3 ≤ 3 from by decide) (x' := (⟨t322, t323, t324⟩ : S141)) (k141_mkM _ _ _ (⟨t322, t323, t324⟩ : S141) ) (fun _ hk => hk); have hx12_0 := hcc12 0 _ rfl; (try simp only [show (k141).sz = 3 from rfl, Nat.mul_one, Nat.add_zero] at hx12_0); have hf12_0 := hfr12 0; (try simp only [show (k141).sz = 3 from rfl, Nat.mul_one, Nat.add_zero] at hf12_0); have hx12_1 := hcc12 1 _ rfl; (try simp only [show (k141).sz = 3 from rfl, Nat.mul_one, Nat.add_zero] at hx12_1); have hf12_1 := hfr12 1; (try simp only [show (k141).sz = 3 from rfl, Nat.mul_one, Nat.add_zero] at hf12_1); have hx12_2 := hcc12 2 _ rfl; (try simp only [show (k141).sz = 3 from rfl, Nat.mul_one, Nat.add_zero] at hx12_2); have hf12_2 := hfr12 2; (try simp only [show (k141).sz = 3 from rfl, Nat.mul_one, Nat.add_zero] at hf12_2); clear hcl12 hcc12 hfr12 hM12) | ((with_reducible refine gate_store (t := 141) (p := 21) rfl ?_); refine store_event (t := 141) (p := 21) (v := ?vo_w13) (w1 := (((w11.setCell ⟨go10, (x4_1 : Int).toNat * 3, none⟩ (.int .i64 t322)).setCell ⟨go10, (x4_1 : Int).toNat * 3 + 1, none⟩ (.int .i64 t323)).setCell ⟨go10, (x4_1 : Int).toNat * 3 + 2, none⟩ (.int .i64 t324))) ?hg ?ho ?hn ?hr ?_; (case ho => rfl); (case hg => rfl); (case hn => rfl); (case hr => first | (go_simp; done) | (go_simp; rfl)); intro w13 hw; have hg : w11.grownBy w13 (some go10) := (by rw [hw]; exact HP12.2); have hp_ : Kd.R k141 141 w13 w.heap.size (fun _ => True) (.slice (some ⟨go10, 0, none⟩) x3_1.length co10) y325 := (by rw [hw, Ny325.out]; exact HP12.1); clear HP12; replace HO_3 := Aside0.mk (hp_); replace HB := Aside0.mk ((by rw [hw]; exact below_set (below_set (below_set (HB.out) GB10.out) GB10.out) GB10.out : Below w.heap.size w w13)); clear hg hw hp_))
        go_roundg k1
        case measure => have := HK1.out; omega
        case rel => exact ⟨(y325), (wrap64 (x4_1 + 1)), (by first | rfl | (simp; done) | (simp [*]; done)), H', ⟨by have := HK1.out; omega⟩, ⟨kr HO_3.out⟩, ⟨tb HB⟩⟩
       ·rw [if_neg c9] at H
        exact absurd H (by simp)
      ·rw [if_neg c7] at H
       exact absurd H (by simp)
     ·rw [if_neg c6] at H
      have c6b0 := decide_eq_false c6
      clear c6
      obtain rfl := Option.some.inj H
      go_wp2
      go_ret
      exact ⟨_, er, kr HO_3.out, tb HB⟩
  ·rw [if_neg c3] at H
   exact absurd H (by simp)
 ·rw [if_neg c2] at H
  exact absurd H (by simp)
def laws_toIntS.l0 : Nat → List Int → List Int → Int → Option (List Int)
 | 0, _, _, _ => none
 | k + 1, x0, x3, x4 => if x4 < (x0.length : Int) then (if 0 ≤ x4 then (if x4 < (x3.length : Int) then (laws_toIntS.l0 k x0 (x3.set (x4 : Int).toNat (rd x0 x4)) (wrap64 (x4 + 1))) else (none)) else (none)) else (some x3)
def laws_toIntS.f (k : Nat) (l0 : List Int) : Option (List Int) := if 0 ≤ (l0.length : Int) then (if ((l0.length : Int) : Int).toNat ≤ 35184372088832 then (laws_toIntS.l0 k l0 (List.replicate ((l0.length : Int) : Int).toNat 0) 0) else (none)) else (none)
theorem laws_toIntS.mono_l : ∀ k, (∀ y0 y1 y2, LeO (laws_toIntS.l0 k y0 y1 y2) (laws_toIntS.l0 (k + 1) y0 y1 y2))
 | 0 => fun _ _ _ r h => by simp [laws_toIntS.l0] at h
 | k + 1 => by
  have ih0 := laws_toIntS.mono_l k
  ·intro y0 y1 y2
   unfold laws_toIntS.l0
   repeat' first
   | (with_reducible exact ih0 _ _ _)
   | (with_reducible exact LeO.refl _)
   | (with_reducible exact LeO.none _)
   | (with_reducible refine LeO.ite ?_ ?_)
   | (with_reducible refine LeO.bind ?_ (fun _ => ?_))
   | exact ih0 _ _ _
   | exact LeO.none _
   | refine LeO.ite ?_ ?_
   | refine LeO.bind ?_ (fun _ => ?_)
theorem laws_toIntS.mono : ∀ a0 k, LeO (laws_toIntS.f k a0) (laws_toIntS.f (k + 1) a0) := by
 intro a0 k
 have ih0 := laws_toIntS.mono_l k
 unfold laws_toIntS.f
 repeat' first
   | (with_reducible exact ih0 _ _ _)
   | (with_reducible exact LeO.refl _)
   | (with_reducible exact LeO.none _)
   | (with_reducible refine LeO.ite ?_ ?_)
   | (with_reducible refine LeO.bind ?_ (fun _ => ?_))
   | exact ih0 _ _ _
   | exact LeO.none _
   | refine LeO.ite ?_ ?_
   | refine LeO.bind ?_ (fun _ => ?_)
set_option maxHeartbeats 8000000 in
set_option maxRecDepth 100000 in
theorem laws_toIntS.calls (k : Nat) (A0 : Option Addr) (c0 : Nat) (l0 : List Int) (r : List Int) (w : World) (hr0 : Kd.C (Kd.int .i64) w A0 l0.length l0) (hc0 : l0.length ≤ c0) (h : laws_toIntS.f k l0 = some r) :
  Calls Try.prog 12 #[.slice A0 l0.length c0] w fun e w' => ∃ v0_ : Value, e = .returned (v0_) ∧ Kd.R (Kd.int .i64) 3 w' w.heap.size (fun _ => True) v0_ r ∧ Below w.heap.size w w' := by
 have HR0 := Aside0.mk hr0
 have HC0 := Aside0.mk hc0
 clear hr0 hc0
 have HB := Aside0.mk (Below.refl w.heap.size w)
 have H : (if 0 ≤ (l0.length : Int) then (if ((l0.length : Int) : Int).toNat ≤ 35184372088832 then (laws_toIntS.l0 k l0 (List.replicate ((l0.length : Int) : Int).toNat 0) 0) else (none)) else (none)) = some r := h
 clear h
 by_cases c2 : 0 ≤ (l0.length : Int)
 ·rw [if_pos c2] at H
  have c2b0 := eq_true c2
  have c2b1 := decide_eq_true c2
  clear c2
  by_cases c3 : ((l0.length : Int) : Int).toNat ≤ 35184372088832
  ·rw [if_pos c3] at H
   have c3b0 := eq_true c3
   have c3b1 := decide_eq_true c3
   clear c3
   obtain ⟨y111, hy111⟩ : ∃ y_ : List Int, y_ = (List.replicate ((l0.length : Int) : Int).toNat 0) := ⟨_, rfl⟩
   replace H : (laws_toIntS.l0 k l0 y111 0) = some r := by first | (rw [hy111]; with_reducible exact H) | (have H2_ := (Option.bind_some _ _).symm.trans H; rw [hy111]; with_reducible exact H2_) | (have H2_ := (Option.bind_some _ _).symm.trans H; with_reducible exact H2_) | with_reducible exact H | (rw [hy111]; exact H) | exact H
   have Ny111 := Aside0.mk hy111
   clear hy111
   have H' := Aside0.mk H
   clear H
   go_enter Try.func12, Try.ntmps12
   go_wp2_with (first | ((with_reducible refine gate_dst (N := 7) rfl ?_); refine Kd.R_make (Kd.int .i64) _ 3 rfl (N := 7) rfl 22 _ _ rfl (l0.length : Int) rfl rfl Try.underlying22 (.int .i64 0) 8 info3 rfl (by decide) (by omega) 0 (ok := fun _ => True) (okp := fun _ => True) rfl (fun _ hk => hk) trivial (od) (Nat.le_trans (Nat.mul_le_mul_right _ (od : (l0.length : Int).toNat ≤ 35184372088832)) (by omega)) (Below.refl _ _) (Nat.le_refl _) ?_; intro v112 w4 ho5 hb hg_ hnew_; clear hg_ hnew_; (first | rw [← Ny111.out] at ho5 | (simp only [Int.reduceToNat] at ho5; rw [← Ny111.out] at ho5)); have HO113 := Aside0.mk (Kd.R_lower ho5 (below_size (tb HB))); replace HB := bs HB hb; clear hb ho5))
   go_loopg [4] k (fun kq v4 w' => ∃ (x3_1 : List Int) (x4_1 : Int), v4 = .int .i64 x4_1 ∧ Aside0 (laws_toIntS.l0 kq l0 x3_1 x4_1 = some r) ∧ Aside0 (kq ≤ k) ∧ Aside0 (Kd.R (Kd.int .i64) 3 w' w.heap.size (fun _ => True) v112 x3_1) ∧ Aside0 (Below w.heap.size w w'))
   case atStart => exact ⟨(y111), (0), (by first | rfl | (simp; done) | (simp [*]; done)), H', ⟨Nat.le_refl _⟩, ⟨kr HO113.out⟩, ⟨tb HB⟩⟩
   case round =>
    clear H'
    try clear c1
    try clear c2
    try clear c2b0
    try clear c2b1
    try clear p2
    try clear c3
    try clear c3b0
    try clear c3b1
    obtain ⟨x3_1, x4_1, rfl, HA, HK1, HO_3, HB⟩ := hrel
    cases gk with
    | zero => exact absurd HA.out (by simp [laws_toIntS.l0])
    | succ k1 =>
     have H := HA.out
     clear HA
     simp only [laws_toIntS.l0] at H
     by_cases c6 : x4_1 < (l0.length : Int)
     ·rw [if_pos c6] at H
      have c6b0 := decide_eq_true c6
      clear c6
      by_cases c7 : 0 ≤ x4_1
      ·rw [if_pos c7] at H
       have c7b0 := decide_eq_true c7
       clear c7
       by_cases c8 : x4_1 < (x3_1.length : Int)
       ·rw [if_pos c8] at H
        have c8b0 := decide_eq_true c8
        clear c8
        obtain ⟨y115, hy115⟩ : ∃ y_ : List Int, y_ = (x3_1.set (x4_1 : Int).toNat (rd l0 x4_1)) := ⟨_, rfl⟩
        replace H : (laws_toIntS.l0 k1 l0 y115 (wrap64 (x4_1 + 1))) = some r := by first | (rw [hy115]; with_reducible exact H) | (have H2_ := (Option.bind_some _ _).symm.trans H; rw [hy115]; with_reducible exact H2_) | (have H2_ := (Option.bind_some _ _).symm.trans H; with_reducible exact H2_) | with_reducible exact H | (rw [hy115]; exact H) | exact H
        have Ny115 := Aside0.mk hy115
        clear hy115
        have H' := Aside0.mk H
        clear H
        have p114 : 0 ≤ (x4_1 : Int) := od
        have q114 : x4_1 < (l0.length : Int) := od
        obtain ⟨ad114, e114, hx114_0⟩ := Kd.at_int HR0.out x4_1 p114 q114
        cases e114
        replace hx114_0 := ox HB hx114_0
        replace p114 := eq_true p114
        replace q114 := eq_true q114
        have p9 : 0 ≤ (x4_1 : Int) := od
        have q9 : (x4_1 : Int) < ((x3_1.length : Int) : Int) := od
        obtain ⟨go9, co9, eo9, gb9, gl9, cl9, HG9⟩ := Kd.R_form HO_3.out (by omega)
        (first | cases eo9 | (injection eo9 with ea_ en_ ec_; (first | subst ea_ | (injection ea_ with ea_; subst ea_)); subst ec_; clear en_))
        have GB9 := Aside0.mk gb9
        have GG9 := Aside0.mk HG9
        clear gb9 gl9 HG9
        obtain ⟨hx9_0, hf9_0⟩ := Kd.R_celln 0 HO_3.out (x4_1 : Int) p9 q9
        replace p9 := eq_true p9
        replace q9 := eq_true q9
        have HP10 := Kd.R_putg HO_3.out (x4_1 : Int) (rd l0 x4_1)
        go_wp2_with (first | ((with_reducible refine gate_store (t := 3) (p := 20) rfl ?_); refine store_event (t := 3) (p := 20) (v := ?vo_w11) (w1 := (wr.setCell ⟨go9, (x4_1 : Int).toNat, none⟩ (.int .i64 (rd l0 x4_1)))) ?hg ?ho ?hn ?hr ?_; (case ho => rfl); (case hg => rfl); (case hn => rfl); (case hr => first | (go_simp; done) | (go_simp; rfl)); intro w11 hw; have hg : wr.grownBy w11 (some go9) := (by rw [hw]; exact HP10.2); have hp_ : Kd.R (Kd.int .i64) 3 w11 w.heap.size (fun _ => True) (.slice (some ⟨go9, 0, none⟩) x3_1.length co9) y115 := (by rw [hw, Ny115.out]; exact HP10.1); clear HP10; replace HO_3 := Aside0.mk (hp_); replace HB := Aside0.mk ((by rw [hw]; exact below_set (HB.out) GB9.out : Below w.heap.size w w11)); clear hg hw hp_))
        go_roundg k1
        case measure => have := HK1.out; omega
        case rel => exact ⟨(y115), (wrap64 (x4_1 + 1)), (by first | rfl | (simp; done) | (simp [*]; done)), H', ⟨by have := HK1.out; omega⟩, ⟨kr HO_3.out⟩, ⟨tb HB⟩⟩
       ·rw [if_neg c8] at H
        exact absurd H (by simp)
      ·rw [if_neg c7] at H
       exact absurd H (by simp)
     ·rw [if_neg c6] at H
      have c6b0 := decide_eq_false c6
      clear c6
      obtain rfl := Option.some.inj H
      go_wp2
      go_ret
      exact ⟨_, er, kr HO_3.out, tb HB⟩
  ·rw [if_neg c3] at H
   exact absurd H (by simp)
 ·rw [if_neg c2] at H
  exact absurd H (by simp)
def laws_toRes.f (k : Nat) (a0_0 : Int) (l0_1 : List Int) : Option (Int × List Int) := (laws_toIntS.f k l0_1).bind fun t329 => (some (a0_0, t329))
theorem laws_toRes.mono : ∀ a0 a1 k, LeO (laws_toRes.f k a0 a1) (laws_toRes.f (k + 1) a0 a1) := by
 intro a0 a1 k
 unfold laws_toRes.f
 repeat' first
   | (with_reducible exact laws_toIntS.mono _ _)
   | (with_reducible exact LeO.refl _)
   | (with_reducible exact LeO.none _)
   | (with_reducible refine LeO.ite ?_ ?_)
   | (with_reducible refine LeO.bind ?_ (fun _ => ?_))
   | exact laws_toIntS.mono _ _
   | exact LeO.none _
   | refine LeO.ite ?_ ?_
   | refine LeO.bind ?_ (fun _ => ?_)
set_option maxHeartbeats 8000000 in
set_option maxRecDepth 100000 in
theorem laws_toRes.calls (k : Nat) (a0_0 : Int) (A0_1 : Option Addr) (c0_1 : Nat) (l0_1 : List Int) (r1 : Int) (r2 : List Int) (w : World) (hr0_1 : Kd.C (Kd.int .i64) w A0_1 l0_1.length l0_1) (hc0_1 : l0_1.length ≤ c0_1) (h : laws_toRes.f k a0_0 l0_1 = some (r1, r2)) :
  Calls Try.prog 37 #[.agg #[.int .i64 a0_0, .slice A0_1 l0_1.length c0_1]] w fun e w' => ∃ v1_ : Value, e = .returned (.agg #[.int .i64 r1, v1_]) ∧ Kd.R (Kd.int .i64) 3 w' w.heap.size (fun _ => True) v1_ r2 ∧ Below w.heap.size w w' := by
 have hu62 := Try.underlying62
 have hu70 := Try.underlying70
 have HR0_1 := Aside0.mk hr0_1
 have HC0_1 := Aside0.mk hc0_1
 clear hr0_1 hc0_1
 have HB := Aside0.mk (Below.refl w.heap.size w)
 have H : ((laws_toIntS.f k l0_1).bind fun t329 => (some (a0_0, t329))) = some (r1, r2) := h
 clear h
 replace H := Option.bind_eq_some_iff.mp H
 obtain ⟨t329, A20, H⟩ := H
 replace H : (some (a0_0, t329)) = some (r1, r2) := H
 have A2 := Aside0.mk A20
 clear A20
 simp only [Option.some.injEq, Prod.mk.injEq] at H
 obtain ⟨rfl, rfl⟩ := H
 go_enter Try.func37, Try.ntmps37
 go_wp2_with (first | ((with_reducible refine gate_dst (N := 1) rfl ?_); refine bx (N := 1) (cs := #[.int .i64 a0_0, .slice A0_1 l0_1.length c0_1]) (t := 62) ?_; intro gb326 hg w3 hbox hb; have BK326 := Aside0.mk (hbox); have GE326 := Aside0.mk (ge_ hg HB); replace HB := bs HB hb; clear hb hbox hg) | ((with_reducible refine gate_dst (N := 2) rfl ?_); refine bx (N := 2) (cs := #[.int .i64 0, .slice none 0 0]) (t := 70) ?_; intro gb327 hg w4 hbox hb; have BK327 := Aside0.mk (hbox); have GE327 := Aside0.mk (ge_ hg HB); replace HB := bs HB hb; have NB326_327 := Aside0.mk (nl_ hg BK326); have NB327_326 := Aside0.mk (ng_ hg BK326); replace BK326 := bb BK326 hb; clear hb hbox hg) | ((with_reducible refine gate_dst (N := 3) rfl ?_); refine bx (N := 3) (cs := #[.int .i64 0, .slice none 0 0]) (t := 70) ?_; intro gb328 hg w5 hbox hb; have BK328 := Aside0.mk (hbox); have GE328 := Aside0.mk (ge_ hg HB); replace HB := bs HB hb; have NB326_328 := Aside0.mk (nl_ hg BK326); have NB328_326 := Aside0.mk (ng_ hg BK326); replace BK326 := bb BK326 hb; have NB327_328 := Aside0.mk (nl_ hg BK327); have NB328_327 := Aside0.mk (ng_ hg BK327); replace BK327 := bb BK327 hb; clear hb hbox hg; have hnb6 := NB326_327.out; have hnc6 := NB327_326.out; have hnb7 := NB326_328.out; have hnc7 := NB328_326.out; obtain ⟨hcz8_0, hcz8_1, hfz8_0, hfz8_1⟩ := cs2_ BK326; have hnb9 := NB328_327.out; have hnc9 := NB327_328.out; obtain ⟨hcz10_0, hcz10_1, hfz10_0, hfz10_1⟩ := cs2_ BK328) | ((with_reducible refine gate_callee (f := 12) rfl ?_); refine gL 9 Try.func12 #[.slice A0_1 l0_1.length c0_1] ?_; (with_reducible refine (laws_toIntS.calls k _ _ l0_1 t329 _ ?side1 ?side2 A2.out).mono ?_); (case side1 => exact Kd.C_below HR0_1.out (tb HB)); (case side2 => exact HC0_1.out); rintro e w11 ⟨v330, rfl, ho0, hb⟩; refine ⟨_, rfl, ?_⟩; have HO331 := Aside0.mk (Kd.R_lower ho0 (below_size (tb HB))); replace BK326 := Aside0.mk (blk_below (g := gb326) (o := .cells #[.int .i64 a0_0, .slice A0_1 l0_1.length c0_1] 62 (0, 0)) (bf BK326) hb); replace BK327 := Aside0.mk (blk_below (g := gb327) (o := .cells #[.int .i64 0, .slice none 0 0] 70 (0, 0)) (bf BK327) hb); replace BK328 := Aside0.mk (blk_below (g := gb328) (o := .cells #[.int .i64 a0_0, .slice none 0 0] 70 (0, 0)) (by (with_reducible repeat (first | refine blk_drewN ?_ _ | refine blk_drew ?_ | refine blk_alloc ?_ _)); refine blk_put (cs := #[.int .i64 0, .slice none 0 0]) ?_ 0 _ rfl; (with_reducible repeat (first | refine blk_drewN ?_ _ | refine blk_drew ?_ | refine blk_alloc ?_ _)); exact BK328.out) hb); replace HB := bs HB hb; (try clear hb); (try clear hb2); (try clear hk); (try clear hi); (try clear ho0); obtain ⟨Ao12, co12, eo12⟩ := Kd.R_slice HO331.out; subst eo12; obtain ⟨hcz13_0, hcz13_1, hfz13_0, hfz13_1⟩ := cs2_ BK328; obtain ⟨hcz14_0, hcz14_1, hfz14_0, hfz14_1⟩ := cs2_ BK327))
 refine bodyPost_ret (results_cell_row rfl _ _ gb327 70 #[.int .i64 a0_0, .slice Ao12 t329.length co12] (0, 0) _ rfl (by (with_reducible repeat (first | refine blk_drewN ?_ _ | refine blk_drew ?_ | refine blk_alloc ?_ _)); refine blk_put (cs := #[.int .i64 a0_0, .slice none 0 0]) ?_ 1 _ rfl; (with_reducible repeat (first | refine blk_drewN ?_ _ | refine blk_drew ?_ | refine blk_alloc ?_ _)); refine blk_put (cs := #[.int .i64 0, .slice none 0 0]) ?_ 0 _ rfl; (with_reducible repeat (first | refine blk_drewN ?_ _ | refine blk_drew ?_ | refine blk_alloc ?_ _)); refine blk_far ?_ NB327_328.out _; (with_reducible repeat (first | refine blk_drewN ?_ _ | refine blk_drew ?_ | refine blk_alloc ?_ _)); exact BK327.out) Try.underlying70 rfl (by kernel_rfl)) rfl ?_
 exact ⟨_, er, by (with_reducible repeat (first | apply Kd.R_alloc | apply Kd.R_drewN | apply Kd.R_drew)); exact Kd.R_mono (Kd.R_far (p := ⟨gb327, 1, none⟩) (Kd.R_far (p := ⟨gb327, 0, none⟩) (Kd.R_far (p := ⟨gb328, 1, none⟩) (Kd.R_types (Kd.R_types HO331.out BK328.out (by decide)) BK327.out (by decide)) (fun _ hk => hk.1.2) (.slice Ao12 t329.length co12)) (fun _ hk => hk.2) (.int .i64 a0_0)) (fun _ hk => hk.2) (.slice Ao12 t329.length co12)) (fun _ hk => trivial), tb HB⟩
def laws_toEntry.f (a0_0 : Int) (a0_1 : Int) (a0_2 : Int) : Option (Int × Int × Int) := some (a0_0, a0_1, a0_2)
set_option maxHeartbeats 8000000 in
set_option maxRecDepth 100000 in
theorem laws_toEntry.calls (a0_0 : Int) (a0_1 : Int) (a0_2 : Int) (r1 : Int) (r2 : Int) (r3 : Int) (w : World) (h : laws_toEntry.f a0_0 a0_1 a0_2 = some (r1, r2, r3)) :
  Calls Try.prog 136 #[.agg #[.int .i64 a0_0, .int .i64 a0_1, .int .i64 a0_2]] w fun e w' => e = .returned (.agg #[.int .i64 r1, .int .i64 r2, .int .i64 r3]) ∧ Below w.heap.size w w' := by
 have hu168 := Try.underlying168
 have hu166 := Try.underlying166
 have HB := Aside0.mk (Below.refl w.heap.size w)
 have H : (some (a0_0, a0_1, a0_2)) = some (r1, r2, r3) := h
 clear h
 simp only [Option.some.injEq, Prod.mk.injEq] at H
 obtain ⟨rfl, rfl, rfl⟩ := H
 go_enter Try.func136, Try.ntmps136
 go_wp2_with (first | ((with_reducible refine gate_dst (N := 1) rfl ?_); refine bx (N := 1) (cs := #[.int .i64 a0_0, .int .i64 a0_1, .int .i64 a0_2]) (t := 168) ?_; intro gb332 hg w2 hbox hb; have BK332 := Aside0.mk (hbox); have GE332 := Aside0.mk (ge_ hg HB); replace HB := bs HB hb; clear hb hbox hg) | ((with_reducible refine gate_dst (N := 2) rfl ?_); refine bx (N := 2) (cs := #[.int .i64 0, .int .i64 0, .int .i64 0]) (t := 166) ?_; intro gb333 hg w3 hbox hb; have BK333 := Aside0.mk (hbox); have GE333 := Aside0.mk (ge_ hg HB); replace HB := bs HB hb; have NB332_333 := Aside0.mk (nl_ hg BK332); have NB333_332 := Aside0.mk (ng_ hg BK332); replace BK332 := bb BK332 hb; clear hb hbox hg) | ((with_reducible refine gate_dst (N := 3) rfl ?_); refine bx (N := 3) (cs := #[.int .i64 0, .int .i64 0, .int .i64 0]) (t := 166) ?_; intro gb334 hg w4 hbox hb; have BK334 := Aside0.mk (hbox); have GE334 := Aside0.mk (ge_ hg HB); replace HB := bs HB hb; have NB332_334 := Aside0.mk (nl_ hg BK332); have NB334_332 := Aside0.mk (ng_ hg BK332); replace BK332 := bb BK332 hb; have NB333_334 := Aside0.mk (nl_ hg BK333); have NB334_333 := Aside0.mk (ng_ hg BK333); replace BK333 := bb BK333 hb; clear hb hbox hg; have hnb5 := NB332_333.out; have hnc5 := NB333_332.out; have hnb6 := NB332_334.out; have hnc6 := NB334_332.out; obtain ⟨hcz7_0, hcz7_1, hcz7_2, hfz7_0, hfz7_1, hfz7_2⟩ := cs3_ BK332; have hnb8 := NB334_333.out; have hnc8 := NB333_334.out; obtain ⟨hcz9_0, hcz9_1, hcz9_2, hfz9_0, hfz9_1, hfz9_2⟩ := cs3_ BK334; obtain ⟨hcz10_0, hcz10_1, hcz10_2, hfz10_0, hfz10_1, hfz10_2⟩ := cs3_ BK333))
 refine bodyPost_ret (results_cell_row rfl _ _ gb333 166 #[.int .i64 a0_0, .int .i64 a0_1, .int .i64 a0_2] (0, 0) _ rfl (by (with_reducible repeat (first | refine blk_drewN ?_ _ | refine blk_drew ?_ | refine blk_alloc ?_ _)); refine blk_put (cs := #[.int .i64 a0_0, .int .i64 a0_1, .int .i64 0]) ?_ 2 _ rfl; (with_reducible repeat (first | refine blk_drewN ?_ _ | refine blk_drew ?_ | refine blk_alloc ?_ _)); refine blk_put (cs := #[.int .i64 a0_0, .int .i64 0, .int .i64 0]) ?_ 1 _ rfl; (with_reducible repeat (first | refine blk_drewN ?_ _ | refine blk_drew ?_ | refine blk_alloc ?_ _)); refine blk_put (cs := #[.int .i64 0, .int .i64 0, .int .i64 0]) ?_ 0 _ rfl; (with_reducible repeat (first | refine blk_drewN ?_ _ | refine blk_drew ?_ | refine blk_alloc ?_ _)); refine blk_far ?_ NB333_334.out _; (with_reducible repeat (first | refine blk_drewN ?_ _ | refine blk_drew ?_ | refine blk_alloc ?_ _)); refine blk_far ?_ NB333_334.out _; (with_reducible repeat (first | refine blk_drewN ?_ _ | refine blk_drew ?_ | refine blk_alloc ?_ _)); refine blk_far ?_ NB333_334.out _; (with_reducible repeat (first | refine blk_drewN ?_ _ | refine blk_drew ?_ | refine blk_alloc ?_ _)); exact BK333.out) Try.underlying166 rfl (by kernel_rfl)) rfl ?_
 exact ⟨er, tb HB⟩
def laws_toEntryS.l0 : Nat → List (S168) → List (S166) → Int → Option ((List (S166)))
 | 0, _, _, _ => none
 | k + 1, x0, x3, x4 => if x4 < (x0.length : Int) then (if 0 ≤ x4 then ((laws_toEntry.f ((rd_T168 x0 x4).f0) ((rd_T168 x0 x4).f1) ((rd_T168 x0 x4).f2)).bind fun bt339 => (if x4 < (x3.length : Int) then (laws_toEntryS.l0 k x0 (x3.set (x4 : Int).toNat (⟨bt339.1, bt339.2.1, bt339.2.2⟩ : S166)) (wrap64 (x4 + 1))) else (none))) else (none)) else (some x3)
def laws_toEntryS.f (k : Nat) (l0 : List (S168)) : Option ((List (S166))) := if 0 ≤ (l0.length : Int) then (if ((l0.length : Int) : Int).toNat ≤ 11728124029610 then (laws_toEntryS.l0 k l0 (List.replicate ((l0.length : Int) : Int).toNat z166) 0) else (none)) else (none)
theorem laws_toEntryS.mono_l : ∀ k, (∀ y0 y1 y2, LeO (laws_toEntryS.l0 k y0 y1 y2) (laws_toEntryS.l0 (k + 1) y0 y1 y2))
 | 0 => fun _ _ _ r h => by simp [laws_toEntryS.l0] at h
 | k + 1 => by
  have ih0 := laws_toEntryS.mono_l k
  ·intro y0 y1 y2
   unfold laws_toEntryS.l0
   repeat' first
   | (with_reducible exact ih0 _ _ _)
   | (with_reducible exact LeO.refl _)
   | (with_reducible exact LeO.none _)
   | (with_reducible refine LeO.ite ?_ ?_)
   | (with_reducible refine LeO.bind ?_ (fun _ => ?_))
   | exact ih0 _ _ _
   | exact LeO.none _
   | refine LeO.ite ?_ ?_
   | refine LeO.bind ?_ (fun _ => ?_)
theorem laws_toEntryS.mono : ∀ a0 k, LeO (laws_toEntryS.f k a0) (laws_toEntryS.f (k + 1) a0) := by
 intro a0 k
 have ih0 := laws_toEntryS.mono_l k
 unfold laws_toEntryS.f
 repeat' first
   | (with_reducible exact ih0 _ _ _)
   | (with_reducible exact LeO.refl _)
   | (with_reducible exact LeO.none _)
   | (with_reducible refine LeO.ite ?_ ?_)
   | (with_reducible refine LeO.bind ?_ (fun _ => ?_))
   | exact ih0 _ _ _
   | exact LeO.none _
   | refine LeO.ite ?_ ?_
   | refine LeO.bind ?_ (fun _ => ?_)
set_option maxHeartbeats 8000000 in
set_option maxRecDepth 100000 in
theorem laws_toEntryS.calls (k : Nat) (A0 : Option Addr) (c0 : Nat) (l0 : List (S168)) (r : List (S166)) (w : World) (hr0 : Kd.C k168 w A0 l0.length l0) (hc0 : l0.length ≤ c0) (h : laws_toEntryS.f k l0 = some r) :
  Calls Try.prog 65 #[.slice A0 l0.length c0] w fun e w' => ∃ v0_ : Value, e = .returned (v0_) ∧ Kd.R k166 166 w' w.heap.size (fun _ => True) v0_ r ∧ Below w.heap.size w w' := by
 have hu168 := Try.underlying168
 have hu166 := Try.underlying166
 have HR0 := Aside0.mk hr0
 have HC0 := Aside0.mk hc0
 clear hr0 hc0
 have HB := Aside0.mk (Below.refl w.heap.size w)
 have H : (if 0 ≤ (l0.length : Int) then (if ((l0.length : Int) : Int).toNat ≤ 11728124029610 then (laws_toEntryS.l0 k l0 (List.replicate ((l0.length : Int) : Int).toNat z166) 0) else (none)) else (none)) = some r := h
 clear h
 by_cases c2 : 0 ≤ (l0.length : Int)
 ·rw [if_pos c2] at H
  have c2b0 := eq_true c2
  have c2b1 := decide_eq_true c2
  clear c2
  by_cases c3 : ((l0.length : Int) : Int).toNat ≤ 11728124029610
  ·rw [if_pos c3] at H
   have c3b0 := eq_true c3
   have c3b1 := decide_eq_true c3
   clear c3
   obtain ⟨y335, hy335⟩ : ∃ y_ : List (S166), y_ = (List.replicate ((l0.length : Int) : Int).toNat z166) := ⟨_, rfl⟩
   replace H : (laws_toEntryS.l0 k l0 y335 0) = some r := by first | (rw [hy335]; with_reducible exact H) | (have H2_ := (Option.bind_some _ _).symm.trans H; rw [hy335]; with_reducible exact H2_) | (have H2_ := (Option.bind_some _ _).symm.trans H; with_reducible exact H2_) | with_reducible exact H | (rw [hy335]; exact H) | exact H
   have Ny335 := Aside0.mk hy335
   clear hy335
   have H' := Aside0.mk H
   clear H
   go_enter Try.func65, Try.ntmps65
   go_wp2_with (first | ((with_reducible refine gate_dst (N := 7) rfl ?_); refine Kd.R_make k166 _ 166 rfl (N := 7) rfl 104 _ _ rfl (l0.length : Int) rfl rfl Try.underlying104 (.agg #[(.int .i64 0), (.int .i64 0), (.int .i64 0)]) 24 info166 rfl (by decide) (by omega) z166 (ok := fun _ => True) (okp := fun _ => True) (k166_mkM _ _ _ z166 ) (fun _ hk => hk) trivial (od) (Nat.le_trans (Nat.mul_le_mul_right _ (od : (l0.length : Int).toNat ≤ 11728124029610)) (by omega)) (Below.refl _ _) (Nat.le_refl _) ?_; intro v336 w4 ho5 hb hg_ hnew_; clear hg_ hnew_; (first | rw [← Ny335.out] at ho5 | (simp only [Int.reduceToNat] at ho5; rw [← Ny335.out] at ho5)); have HO337 := Aside0.mk (Kd.R_lower ho5 (below_size (tb HB))); replace HB := bs HB hb; clear hb ho5))
   go_loopg [4] k (fun kq v4 w' => ∃ (x3_1 : List (S166)) (x4_1 : Int), v4 = .int .i64 x4_1 ∧ Aside0 (laws_toEntryS.l0 kq l0 x3_1 x4_1 = some r) ∧ Aside0 (kq ≤ k) ∧ Aside0 (Kd.R k166 166 w' w.heap.size (fun _ => True) v336 x3_1) ∧ Aside0 (Below w.heap.size w w'))
   case atStart => exact ⟨(y335), (0), (by first | rfl | (simp; done) | (simp [*]; done)), H', ⟨Nat.le_refl _⟩, ⟨kr HO337.out⟩, ⟨tb HB⟩⟩
   case round =>
    clear H'
    try clear c2
    try clear c2b0
    try clear c2b1
    try clear p2
    try clear c3
    try clear c3b0
    try clear c3b1
    obtain ⟨x3_1, x4_1, rfl, HA, HK1, HO_3, HB⟩ := hrel
    cases gk with
    | zero => exact absurd HA.out (by simp [laws_toEntryS.l0])
    | succ k1 =>
     have H := HA.out
     clear HA
     simp only [laws_toEntryS.l0] at H
     by_cases c6 : x4_1 < (l0.length : Int)
     ·rw [if_pos c6] at H
      have c6b0 := decide_eq_true c6
      clear c6
      by_cases c7 : 0 ≤ x4_1
      ·rw [if_pos c7] at H
       have c7b0 := decide_eq_true c7
       clear c7
       replace H := Option.bind_eq_some_iff.mp H
       obtain ⟨⟨t339, t340, t341⟩, A80, H⟩ := H
       replace H : (if x4_1 < (x3_1.length : Int) then (laws_toEntryS.l0 k1 l0 (x3_1.set (x4_1 : Int).toNat (⟨t339, t340, t341⟩ : S166)) (wrap64 (x4_1 + 1))) else (none)) = some r := H
       have A8 := Aside0.mk A80
       clear A80
       by_cases c9 : x4_1 < (x3_1.length : Int)
       ·rw [if_pos c9] at H
        have c9b0 := decide_eq_true c9
        clear c9
        obtain ⟨y342, hy342⟩ : ∃ y_ : List (S166), y_ = (x3_1.set (x4_1 : Int).toNat (⟨t339, t340, t341⟩ : S166)) := ⟨_, rfl⟩
        replace H : (laws_toEntryS.l0 k1 l0 y342 (wrap64 (x4_1 + 1))) = some r := by first | (rw [hy342]; with_reducible exact H) | (have H2_ := (Option.bind_some _ _).symm.trans H; rw [hy342]; with_reducible exact H2_) | (have H2_ := (Option.bind_some _ _).symm.trans H; with_reducible exact H2_) | with_reducible exact H | (rw [hy342]; exact H) | exact H
        have Ny342 := Aside0.mk hy342
        clear hy342
        have H' := Aside0.mk H
        clear H
        have p338 : 0 ≤ (x4_1 : Int) := od
        have q338 : x4_1 < (l0.length : Int) := od
        obtain ⟨ad338, e338, hx338_0, hx338_1, hx338_2⟩ := at_T168 HR0.out x4_1 p338 q338
        cases e338
        replace hx338_0 := ox HB hx338_0
        replace hx338_1 := ox HB hx338_1
        replace hx338_2 := ox HB hx338_2
        replace p338 := eq_true p338
        replace q338 := eq_true q338
        go_wp2_with (first | ((with_reducible refine gate_callee (f := 136) rfl ?_); refine gL 20 Try.func136 #[.agg #[.int .i64 ((rd_T168 l0 x4_1).f0), .int .i64 ((rd_T168 l0 x4_1).f1), .int .i64 ((rd_T168 l0 x4_1).f2)]] ?_; (with_reducible refine (laws_toEntry.calls ((rd_T168 l0 x4_1).f0) ((rd_T168 l0 x4_1).f1) ((rd_T168 l0 x4_1).f2) t339 t340 t341 _ A8.out).mono ?_); rintro e w11 ⟨rfl, hb⟩; refine ⟨_, rfl, ?_⟩; replace HO_3 := rb HO_3 hb; replace HB := bs HB hb; (try clear hb); (try clear hb2); (try clear hk); (try clear hi); have p10 : 0 ≤ (x4_1 : Int) := od; have q10 : (x4_1 : Int) < ((x3_1.length : Int) : Int) := od; obtain ⟨go10, co10, eo10, gb10, gl10, cl10, HG10⟩ := Kd.R_form HO_3.out (by omega); (first | cases eo10 | (injection eo10 with ea_ en_ ec_; (first | subst ea_ | (injection ea_ with ea_; subst ea_)); subst ec_; clear en_)); have GB10 := Aside0.mk gb10; have GG10 := Aside0.mk HG10; clear gb10 gl10 HG10; obtain ⟨ce10, hcl10, hM10, hcc10, hfr10⟩ := Kd.R_elem HO_3.out z166 (x4_1 : Int) p10 q10; obtain rfl := k166_openM hM10; have hx10_0 : w11.cell? ⟨go10, (x4_1 : Int).toNat * 3, none⟩ = some (.int .i64 ((rd_T166 x3_1 x4_1).f0)) := hcc10 0 _ rfl; have hx10_1 : w11.cell? ⟨go10, (x4_1 : Int).toNat * 3 + 1, none⟩ = some (.int .i64 ((rd_T166 x3_1 x4_1).f1)) := hcc10 1 _ rfl; have hx10_2 : w11.cell? ⟨go10, (x4_1 : Int).toNat * 3 + 2, none⟩ = some (.int .i64 ((rd_T166 x3_1 x4_1).f2)) := hcc10 2 _ rfl; have hf10_0 : w11.frozen? ⟨go10, (x4_1 : Int).toNat * 3, none⟩ = false := hfr10 0; have hf10_1 : w11.frozen? ⟨go10, (x4_1 : Int).toNat * 3 + 1, none⟩ = false := hfr10 1; have hf10_2 : w11.frozen? ⟨go10, (x4_1 : Int).toNat * 3 + 2, none⟩ = false := hfr10 2; clear hcl10 hcc10 hfr10 hM10; replace p10 := eq_true p10; replace q10 := eq_true q10; have HX12 := Aside0.mk (show Kd.R k166 166 w11 w.heap.size (fun _ => True) (.slice (some ⟨go10, 0, none⟩) x3_1.length co10) x3_1 from (kr HO_3.out)); obtain ⟨ce12, hcl12, hM12, hcc12, hfr12⟩ := Kd.R_elem HX12.out z166 (x4_1 : Int) (od) (by have h_ : (x4_1 : Int) < ((x3_1.length : Int) : Int) := od; first | exact h_ | (have e_ := (Kd.R_reads' HO_3.out).1; omega) | simpa using h_); obtain rfl := k166_openM hM12; have HP12 := Kd.R_seg HX12.out (x4_1 : Int) (od) (by have h_ : (x4_1 : Int) < ((x3_1.length : Int) : Int) := od; first | exact h_ | (have e_ := (Kd.R_reads' HO_3.out).1; omega) | simpa using h_) (seg := [.int .i64 t339, .int .i64 t340, .int .i64 t341]) (j := 0) hcl12 hcc12 (show 3 ≤ 3 from by decide) (x' := (⟨t339, t340, t341⟩ : S166)) (k166_mkM _ _ _ (⟨t339, t340, t341⟩ : S166) ) (fun _ hk => hk); have hx12_0 := hcc12 0 _ rfl; (try simp only [show (k166).sz = 3 from rfl, Nat.mul_one, Nat.add_zero] at hx12_0); have hf12_0 := hfr12 0; (try simp only [show (k166).sz = 3 from rfl, Nat.mul_one, Nat.add_zero] at hf12_0); have hx12_1 := hcc12 1 _ rfl; (try simp only [show (k166).sz = 3 from rfl, Nat.mul_one, Nat.add_zero] at hx12_1); have hf12_1 := hfr12 1; (try simp only [show (k166).sz = 3 from rfl, Nat.mul_one, Nat.add_zero] at hf12_1); have hx12_2 := hcc12 2 _ rfl; (try simp only [show (k166).sz = 3 from rfl, Nat.mul_one, Nat.add_zero] at hx12_2); have hf12_2 := hfr12 2; (try simp only [show (k166).sz = 3 from rfl, Nat.mul_one, Nat.add_zero] at hf12_2); clear hcl12 hcc12 hfr12 hM12) | ((with_reducible refine gate_store (t := 166) (p := 21) rfl ?_); refine store_event (t := 166) (p := 21) (v := ?vo_w13) (w1 := (((w11.setCell ⟨go10, (x4_1 : Int).toNat * 3, none⟩ (.int .i64 t339)).setCell ⟨go10, (x4_1 : Int).toNat * 3 + 1, none⟩ (.int .i64 t340)).setCell ⟨go10, (x4_1 : Int).toNat * 3 + 2, none⟩ (.int .i64 t341))) ?hg ?ho ?hn ?hr ?_; (case ho => rfl); (case hg => rfl); (case hn => rfl); (case hr => first | (go_simp; done) | (go_simp; rfl)); intro w13 hw; have hg : w11.grownBy w13 (some go10) := (by rw [hw]; exact HP12.2); have hp_ : Kd.R k166 166 w13 w.heap.size (fun _ => True) (.slice (some ⟨go10, 0, none⟩) x3_1.length co10) y342 := (by rw [hw, Ny342.out]; exact HP12.1); clear HP12; replace HO_3 := Aside0.mk (hp_); replace HB := Aside0.mk ((by rw [hw]; exact below_set (below_set (below_set (HB.out) GB10.out) GB10.out) GB10.out : Below w.heap.size w w13)); clear hg hw hp_))
        go_roundg k1
        case measure => have := HK1.out; omega
        case rel => exact ⟨(y342), (wrap64 (x4_1 + 1)), (by first | rfl | (simp; done) | (simp [*]; done)), H', ⟨by have := HK1.out; omega⟩, ⟨kr HO_3.out⟩, ⟨tb HB⟩⟩
       ·rw [if_neg c9] at H
        exact absurd H (by simp)
      ·rw [if_neg c7] at H
       exact absurd H (by simp)
     ·rw [if_neg c6] at H
      have c6b0 := decide_eq_false c6
      clear c6
      obtain rfl := Option.some.inj H
      go_wp2
      go_ret
      exact ⟨_, er, kr HO_3.out, tb HB⟩
  ·rw [if_neg c3] at H
   exact absurd H (by simp)
 ·rw [if_neg c2] at H
  exact absurd H (by simp)
def laws_toDesc.f (k : Nat) (a0_0 : Int) (a0_1 : Int) (l0_2 : List (S168)) (a0_3 : Int) (l0_4 : List Int) : Option (Int × Int × (List (S166)) × Int × List Int) := (laws_toEntryS.f k l0_2).bind fun t346 => ((laws_toRes.f k a0_3 l0_4).bind fun bt349 => (some (a0_0, a0_1, t346, bt349.1, bt349.2)))
theorem laws_toDesc.mono : ∀ a0 a1 a2 a3 a4 k, LeO (laws_toDesc.f k a0 a1 a2 a3 a4) (laws_toDesc.f (k + 1) a0 a1 a2 a3 a4) := by
 intro a0 a1 a2 a3 a4 k
 unfold laws_toDesc.f
 repeat' first
   | (with_reducible exact laws_toEntryS.mono _ _)
   | (with_reducible exact laws_toRes.mono _ _ _)
   | (with_reducible exact LeO.refl _)
   | (with_reducible exact LeO.none _)
   | (with_reducible refine LeO.ite ?_ ?_)
   | (with_reducible refine LeO.bind ?_ (fun _ => ?_))
   | exact laws_toEntryS.mono _ _
   | exact laws_toRes.mono _ _ _
   | exact LeO.none _
   | refine LeO.ite ?_ ?_
   | refine LeO.bind ?_ (fun _ => ?_)
set_option maxHeartbeats 8000000 in
set_option maxRecDepth 100000 in
theorem laws_toDesc.calls (k : Nat) (a0_0 : Int) (a0_1 : Int) (A0_2 : Option Addr) (c0_2 : Nat) (l0_2 : List (S168)) (a0_3 : Int) (A0_4 : Option Addr) (c0_4 : Nat) (l0_4 : List Int) (r1 : Int) (r2 : Int) (r3 : List (S166)) (r4 : Int) (r5 : List Int) (w : World) (hr0_2 : Kd.C k168 w A0_2 l0_2.length l0_2) (hc0_2 : l0_2.length ≤ c0_2) (hr0_4 : Kd.C (Kd.int .i64) w A0_4 l0_4.length l0_4) (hc0_4 : l0_4.length ≤ c0_4) (h : laws_toDesc.f k a0_0 a0_1 l0_2 a0_3 l0_4 = some (r1, r2, r3, r4, r5)) :
  Calls Try.prog 98 #[.agg #[.int .i64 a0_0, .int .i64 a0_1, .slice A0_2 l0_2.length c0_2, .int .i64 a0_3, .slice A0_4 l0_4.length c0_4]] w fun e w' => ∃ v2_ v4_ : Value, e = .returned (.agg #[.int .i64 r1, .int .i64 r2, v2_, .int .i64 r4, v4_]) ∧ Kd.R k166 166 w' w.heap.size (fun _ => True) v2_ r3 ∧ Kd.R (Kd.int .i64) 3 w' w.heap.size (fun _ => True) v4_ r5 ∧ Below w.heap.size w w' := by
 have hu138 := Try.underlying138
 have hu145 := Try.underlying145
 have hu62 := Try.underlying62
 have hu70 := Try.underlying70
 have HR0_2 := Aside0.mk hr0_2
 have HC0_2 := Aside0.mk hc0_2
 clear hr0_2 hc0_2
 have HR0_4 := Aside0.mk hr0_4
 have HC0_4 := Aside0.mk hc0_4
 clear hr0_4 hc0_4
 have HB := Aside0.mk (Below.refl w.heap.size w)
 have H : ((laws_toEntryS.f k l0_2).bind fun t346 => ((laws_toRes.f k a0_3 l0_4).bind fun bt349 => (some (a0_0, a0_1, t346, bt349.1, bt349.2)))) = some (r1, r2, r3, r4, r5) := h
 clear h
 replace H := Option.bind_eq_some_iff.mp H
 obtain ⟨t346, A20, H⟩ := H
 replace H : ((laws_toRes.f k a0_3 l0_4).bind fun bt349 => (some (a0_0, a0_1, t346, bt349.1, bt349.2))) = some (r1, r2, r3, r4, r5) := H
 have A2 := Aside0.mk A20
 clear A20
 replace H := Option.bind_eq_some_iff.mp H
 obtain ⟨⟨t349, t350⟩, A30, H⟩ := H
 replace H : (some (a0_0, a0_1, t346, t349, t350)) = some (r1, r2, r3, r4, r5) := H
 have A3 := Aside0.mk A30
 clear A30
 simp only [Option.some.injEq, Prod.mk.injEq] at H
 obtain ⟨rfl, rfl, rfl, rfl, rfl⟩ := H
 go_enter Try.func98, Try.ntmps98
 go_wp2_with (first | ((with_reducible refine gate_dst (N := 1) rfl ?_); refine bx (N := 1) (cs := #[.int .i64 a0_0, .int .i64 a0_1, .slice A0_2 l0_2.length c0_2, .int .i64 a0_3, .slice A0_4 l0_4.length c0_4]) (t := 138) ?_; intro gb343 hg w4 hbox hb; have BK343 := Aside0.mk (hbox); have GE343 := Aside0.mk (ge_ hg HB); replace HB := bs HB hb; clear hb hbox hg) | ((with_reducible refine gate_dst (N := 2) rfl ?_); refine bx (N := 2) (cs := #[.int .i64 0, .int .i64 0, .slice none 0 0, .int .i64 0, .slice none 0 0]) (t := 145) ?_; intro gb344 hg w5 hbox hb; have BK344 := Aside0.mk (hbox); have GE344 := Aside0.mk (ge_ hg HB); replace HB := bs HB hb; have NB343_344 := Aside0.mk (nl_ hg BK343); have NB344_343 := Aside0.mk (ng_ hg BK343); replace BK343 := bb BK343 hb; clear hb hbox hg) | ((with_reducible refine gate_dst (N := 3) rfl ?_); refine bx (N := 3) (cs := #[.int .i64 0, .int .i64 0, .slice none 0 0, .int .i64 0, .slice none 0 0]) (t := 145) ?_; intro gb345 hg w6 hbox hb; have BK345 := Aside0.mk (hbox); have GE345 := Aside0.mk (ge_ hg HB); replace HB := bs HB hb; have NB343_345 := Aside0.mk (nl_ hg BK343); have NB345_343 := Aside0.mk (ng_ hg BK343); replace BK343 := bb BK343 hb; have NB344_345 := Aside0.mk (nl_ hg BK344); have NB345_344 := Aside0.mk (ng_ hg BK344); replace BK344 := bb BK344 hb; clear hb hbox hg; have hnb7 := NB343_344.out; have hnc7 := NB344_343.out; have hnb8 := NB343_345.out; have hnc8 := NB345_343.out; obtain ⟨hcz9_0, hcz9_1, hcz9_2, hcz9_3, hcz9_4, hfz9_0, hfz9_1, hfz9_2, hfz9_3, hfz9_4⟩ := cs5_ BK343; have hnb10 := NB345_344.out; have hnc10 := NB344_345.out; obtain ⟨hcz11_0, hcz11_1, hcz11_2, hcz11_3, hcz11_4, hfz11_0, hfz11_1, hfz11_2, hfz11_3, hfz11_4⟩ := cs5_ BK345) | ((with_reducible refine gate_callee (f := 65) rfl ?_); refine gL 12 Try.func65 #[.slice A0_2 l0_2.length c0_2] ?_; (with_reducible refine (laws_toEntryS.calls k _ _ l0_2 t346 _ ?side1 ?side2 A2.out).mono ?_); (case side1 => exact Kd.C_below HR0_2.out (tb HB)); (case side2 => exact HC0_2.out); rintro e w12 ⟨v347, rfl, ho0, hb⟩; refine ⟨_, rfl, ?_⟩; have HO348 := Aside0.mk (Kd.R_lower ho0 (below_size (tb HB))); replace BK343 := Aside0.mk (blk_below (g := gb343) (o := .cells #[.int .i64 a0_0, .int .i64 a0_1, .slice A0_2 l0_2.length c0_2, .int .i64 a0_3, .slice A0_4 l0_4.length c0_4] 138 (0, 0)) (bf BK343) hb); replace BK344 := Aside0.mk (blk_below (g := gb344) (o := .cells #[.int .i64 0, .int .i64 0, .slice none 0 0, .int .i64 0, .slice none 0 0] 145 (0, 0)) (bf BK344) hb); replace BK345 := Aside0.mk (blk_below (g := gb345) (o := .cells #[.int .i64 a0_0, .int .i64 a0_1, .slice none 0 0, .int .i64 0, .slice none 0 0] 145 (0, 0)) (by (with_reducible repeat (first | refine blk_drewN ?_ _ | refine blk_drew ?_ | refine blk_alloc ?_ _)); refine blk_put (cs := #[.int .i64 a0_0, .int .i64 0, .slice none 0 0, .int .i64 0, .slice none 0 0]) ?_ 1 _ rfl; (with_reducible repeat (first | refine blk_drewN ?_ _ | refine blk_drew ?_ | refine blk_alloc ?_ _)); refine blk_put (cs := #[.int .i64 0, .int .i64 0, .slice none 0 0, .int .i64 0, .slice none 0 0]) ?_ 0 _ rfl; (with_reducible repeat (first | refine blk_drewN ?_ _ | refine blk_drew ?_ | refine blk_alloc ?_ _)); exact BK345.out) hb); replace HB := bs HB hb; (try clear hb); (try clear hb2); (try clear hk); (try clear hi); (try clear ho0); obtain ⟨Ao13, co13, eo13⟩ := Kd.R_slice HO348.out; subst eo13; obtain ⟨hcz14_0, hcz14_1, hcz14_2, hcz14_3, hcz14_4, hfz14_0, hfz14_1, hfz14_2, hfz14_3, hfz14_4⟩ := cs5_ BK345; obtain ⟨hcz15_0, hcz15_1, hcz15_2, hcz15_3, hcz15_4, hfz15_0, hfz15_1, hfz15_2, hfz15_3, hfz15_4⟩ := cs5_ BK343) | ((with_reducible refine gate_callee (f := 37) rfl ?_); refine gL 16 Try.func37 #[.agg #[.int .i64 a0_3, .slice A0_4 l0_4.length c0_4]] ?_; (with_reducible refine (laws_toRes.calls k a0_3 _ _ l0_4 t349 t350 _ ?side1 ?side2 A3.out).mono ?_); (case side1 => exact Kd.C_below HR0_4.out (tb HB)); (case side2 => exact HC0_4.out); rintro e w16 ⟨v351, rfl, ho0, hb⟩; refine ⟨_, rfl, ?_⟩; replace HO348 := Aside0.mk (Kd.R_below (kr ((Kd.R_mono (Kd.R_far (p := ⟨gb345, 2, none⟩) (Kd.R_types HO348.out BK345.out (by decide)) (fun _ hk => hk.2) (.slice Ao13 t346.length co13)) (fun _ h_ => h_.1)))) hb); have HO352 := Aside0.mk (Kd.R_lower ho0 (below_size (tb HB))); replace BK343 := Aside0.mk (blk_below (g := gb343) (o := .cells #[.int .i64 a0_0, .int .i64 a0_1, .slice A0_2 l0_2.length c0_2, .int .i64 a0_3, .slice A0_4 l0_4.length c0_4] 138 (0, 0)) (bf BK343) hb); replace BK344 := Aside0.mk (blk_below (g := gb344) (o := .cells #[.int .i64 0, .int .i64 0, .slice none 0 0, .int .i64 0, .slice none 0 0] 145 (0, 0)) (bf BK344) hb); replace BK345 := Aside0.mk (blk_below (g := gb345) (o := .cells #[.int .i64 a0_0, .int .i64 a0_1, .slice Ao13 t346.length co13, .int .i64 0, .slice none 0 0] 145 (0, 0)) (by (with_reducible repeat (first | refine blk_drewN ?_ _ | refine blk_drew ?_ | refine blk_alloc ?_ _)); refine blk_put (cs := #[.int .i64 a0_0, .int .i64 a0_1, .slice none 0 0, .int .i64 0, .slice none 0 0]) ?_ 2 _ rfl; (with_reducible repeat (first | refine blk_drewN ?_ _ | refine blk_drew ?_ | refine blk_alloc ?_ _)); exact BK345.out) hb); replace HB := bs HB hb; (try clear hb); (try clear hb2); (try clear hk); (try clear hi); (try clear ho0); obtain ⟨hcz17_0, hcz17_1, hcz17_2, hcz17_3, hcz17_4, hfz17_0, hfz17_1, hfz17_2, hfz17_3, hfz17_4⟩ := cs5_ BK345; obtain ⟨Ao18, co18, eo18⟩ := Kd.R_slice HO352.out; subst eo18; obtain ⟨hcz19_0, hcz19_1, hcz19_2, hcz19_3, hcz19_4, hfz19_0, hfz19_1, hfz19_2, hfz19_3, hfz19_4⟩ := cs5_ BK344))
 refine bodyPost_ret (results_cell_row rfl _ _ gb344 145 #[.int .i64 a0_0, .int .i64 a0_1, .slice Ao13 t346.length co13, .int .i64 t349, .slice Ao18 t350.length co18] (0, 0) _ rfl (by (with_reducible repeat (first | refine blk_drewN ?_ _ | refine blk_drew ?_ | refine blk_alloc ?_ _)); refine blk_put (cs := #[.int .i64 a0_0, .int .i64 a0_1, .slice Ao13 t346.length co13, .int .i64 t349, .slice none 0 0]) ?_ 4 _ rfl; (with_reducible repeat (first | refine blk_drewN ?_ _ | refine blk_drew ?_ | refine blk_alloc ?_ _)); refine blk_put (cs := #[.int .i64 a0_0, .int .i64 a0_1, .slice Ao13 t346.length co13, .int .i64 0, .slice none 0 0]) ?_ 3 _ rfl; (with_reducible repeat (first | refine blk_drewN ?_ _ | refine blk_drew ?_ | refine blk_alloc ?_ _)); refine blk_put (cs := #[.int .i64 a0_0, .int .i64 a0_1, .slice none 0 0, .int .i64 0, .slice none 0 0]) ?_ 2 _ rfl; (with_reducible repeat (first | refine blk_drewN ?_ _ | refine blk_drew ?_ | refine blk_alloc ?_ _)); refine blk_put (cs := #[.int .i64 a0_0, .int .i64 0, .slice none 0 0, .int .i64 0, .slice none 0 0]) ?_ 1 _ rfl; (with_reducible repeat (first | refine blk_drewN ?_ _ | refine blk_drew ?_ | refine blk_alloc ?_ _)); refine blk_put (cs := #[.int .i64 0, .int .i64 0, .slice none 0 0, .int .i64 0, .slice none 0 0]) ?_ 0 _ rfl; (with_reducible repeat (first | refine blk_drewN ?_ _ | refine blk_drew ?_ | refine blk_alloc ?_ _)); refine blk_far ?_ NB344_345.out _; (with_reducible repeat (first | refine blk_drewN ?_ _ | refine blk_drew ?_ | refine blk_alloc ?_ _)); refine blk_far ?_ NB344_345.out _; (with_reducible repeat (first | refine blk_drewN ?_ _ | refine blk_drew ?_ | refine blk_alloc ?_ _)); exact BK344.out) Try.underlying145 rfl (by kernel_rfl)) rfl ?_
 exact ⟨_, _, er, by (with_reducible repeat (first | apply Kd.R_alloc | apply Kd.R_drewN | apply Kd.R_drew)); exact Kd.R_mono (Kd.R_far (p := ⟨gb344, 4, none⟩) (Kd.R_far (p := ⟨gb344, 3, none⟩) (Kd.R_far (p := ⟨gb344, 2, none⟩) (Kd.R_far (p := ⟨gb344, 1, none⟩) (Kd.R_far (p := ⟨gb344, 0, none⟩) (Kd.R_far (p := ⟨gb345, 4, none⟩) (Kd.R_far (p := ⟨gb345, 3, none⟩) (Kd.R_types (Kd.R_types HO348.out BK345.out (by decide)) BK344.out (by decide)) (fun _ hk => hk.1.2) (.int .i64 t349)) (fun _ hk => hk.1.2) (.slice Ao18 t350.length co18)) (fun _ hk => hk.2) (.int .i64 a0_0)) (fun _ hk => hk.2) (.int .i64 a0_1)) (fun _ hk => hk.2) (.slice Ao13 t346.length co13)) (fun _ hk => hk.2) (.int .i64 t349)) (fun _ hk => hk.2) (.slice Ao18 t350.length co18)) (fun _ hk => trivial), by (with_reducible repeat (first | apply Kd.R_alloc | apply Kd.R_drewN | apply Kd.R_drew)); exact Kd.R_mono (Kd.R_far (p := ⟨gb344, 4, none⟩) (Kd.R_far (p := ⟨gb344, 3, none⟩) (Kd.R_far (p := ⟨gb344, 2, none⟩) (Kd.R_far (p := ⟨gb344, 1, none⟩) (Kd.R_far (p := ⟨gb344, 0, none⟩) (Kd.R_far (p := ⟨gb345, 4, none⟩) (Kd.R_far (p := ⟨gb345, 3, none⟩) (Kd.R_types (Kd.R_types HO352.out BK345.out (by decide)) BK344.out (by decide)) (fun _ hk => hk.1.2) (.int .i64 t349)) (fun _ hk => hk.1.2) (.slice Ao18 t350.length co18)) (fun _ hk => hk.2) (.int .i64 a0_0)) (fun _ hk => hk.2) (.int .i64 a0_1)) (fun _ hk => hk.2) (.slice Ao13 t346.length co13)) (fun _ hk => hk.2) (.int .i64 t349)) (fun _ hk => hk.2) (.slice Ao18 t350.length co18)) (fun _ hk => trivial), tb HB⟩
def laws_toDescS.l0 : Nat → List (S138) → List (S145) → Int → Option ((List (S145)))
 | 0, _, _, _ => none
 | k + 1, x0, x3, x4 => if x4 < (x0.length : Int) then (if 0 ≤ x4 then ((laws_toDesc.f k ((rd_T138 x0 x4).f0) ((rd_T138 x0 x4).f1) ((rd_T138 x0 x4).f2) ((rd_T138 x0 x4).f3.f0) ((rd_T138 x0 x4).f3.f1)).bind fun bt357 => (if x4 < (x3.length : Int) then (laws_toDescS.l0 k x0 (x3.set (x4 : Int).toNat (⟨bt357.1, bt357.2.1, bt357.2.2.1, (⟨bt357.2.2.2.1, bt357.2.2.2.2⟩ : S70)⟩ : S145)) (wrap64 (x4 + 1))) else (none))) else (none)) else (some x3)
def laws_toDescS.f (k : Nat) (l0 : List (S138)) : Option ((List (S145))) := if 0 ≤ (l0.length : Int) then (if ((l0.length : Int) : Int).toNat ≤ 3909374676536 then (laws_toDescS.l0 k l0 (List.replicate ((l0.length : Int) : Int).toNat z145) 0) else (none)) else (none)
theorem laws_toDescS.mono_l : ∀ k, (∀ y0 y1 y2, LeO (laws_toDescS.l0 k y0 y1 y2) (laws_toDescS.l0 (k + 1) y0 y1 y2))
 | 0 => fun _ _ _ r h => by simp [laws_toDescS.l0] at h
 | k + 1 => by
  have ih0 := laws_toDescS.mono_l k
  ·intro y0 y1 y2
   unfold laws_toDescS.l0
   repeat' first
   | (with_reducible exact ih0 _ _ _)
   | (with_reducible exact laws_toDesc.mono _ _ _ _ _ _)
   | (with_reducible exact LeO.refl _)
   | (with_reducible exact LeO.none _)
   | (with_reducible refine LeO.ite ?_ ?_)
   | (with_reducible refine LeO.bind ?_ (fun _ => ?_))
   | exact ih0 _ _ _
   | exact laws_toDesc.mono _ _ _ _ _ _
   | exact LeO.none _
   | refine LeO.ite ?_ ?_
   | refine LeO.bind ?_ (fun _ => ?_)
theorem laws_toDescS.mono : ∀ a0 k, LeO (laws_toDescS.f k a0) (laws_toDescS.f (k + 1) a0) := by
 intro a0 k
 have ih0 := laws_toDescS.mono_l k
 unfold laws_toDescS.f
 repeat' first
   | (with_reducible exact ih0 _ _ _)
   | (with_reducible exact laws_toDesc.mono _ _ _ _ _ _)
   | (with_reducible exact LeO.refl _)
   | (with_reducible exact LeO.none _)
   | (with_reducible refine LeO.ite ?_ ?_)
   | (with_reducible refine LeO.bind ?_ (fun _ => ?_))
   | exact ih0 _ _ _
   | exact laws_toDesc.mono _ _ _ _ _ _
   | exact LeO.none _
   | refine LeO.ite ?_ ?_
   | refine LeO.bind ?_ (fun _ => ?_)
set_option maxHeartbeats 8000000 in
set_option maxRecDepth 100000 in
theorem laws_toDescS.calls (k : Nat) (A0 : Option Addr) (c0 : Nat) (l0 : List (S138)) (r : List (S145)) (w : World) (hr0 : Kd.C k138 w A0 l0.length l0) (hc0 : l0.length ≤ c0) (h : laws_toDescS.f k l0 = some r) :
  Calls Try.prog 24 #[.slice A0 l0.length c0] w fun e w' => ∃ v0_ : Value, e = .returned (v0_) ∧ Kd.S k145 145 w' w.heap.size (fun _ => True) v0_ r ∧ Below w.heap.size w w' := by
 have hu138 := Try.underlying138
 have hu145 := Try.underlying145
 have HR0 := Aside0.mk hr0
 have HC0 := Aside0.mk hc0
 clear hr0 hc0
 have HB := Aside0.mk (Below.refl w.heap.size w)
 have H : (if 0 ≤ (l0.length : Int) then (if ((l0.length : Int) : Int).toNat ≤ 3909374676536 then (laws_toDescS.l0 k l0 (List.replicate ((l0.length : Int) : Int).toNat z145) 0) else (none)) else (none)) = some r := h
 clear h
 by_cases c2 : 0 ≤ (l0.length : Int)
 ·rw [if_pos c2] at H
  have c2b0 := eq_true c2
  have c2b1 := decide_eq_true c2
  clear c2
  by_cases c3 : ((l0.length : Int) : Int).toNat ≤ 3909374676536
  ·rw [if_pos c3] at H
   have c3b0 := eq_true c3
   have c3b1 := decide_eq_true c3
   clear c3
   obtain ⟨y353, hy353⟩ : ∃ y_ : List (S145), y_ = (List.replicate ((l0.length : Int) : Int).toNat z145) := ⟨_, rfl⟩
   replace H : (laws_toDescS.l0 k l0 y353 0) = some r := by first | (rw [hy353]; with_reducible exact H) | (have H2_ := (Option.bind_some _ _).symm.trans H; rw [hy353]; with_reducible exact H2_) | (have H2_ := (Option.bind_some _ _).symm.trans H; with_reducible exact H2_) | with_reducible exact H | (rw [hy353]; exact H) | exact H
   have Ny353 := Aside0.mk hy353
   clear hy353
   have H' := Aside0.mk H
   clear H
   go_enter Try.func24, Try.ntmps24
   go_wp2_with (first | ((with_reducible refine gate_dst (N := 7) rfl ?_); refine Kd.S_make k145 _ 145 rfl (N := 7) rfl 49 _ _ rfl (l0.length : Int) rfl rfl Try.underlying49 (.agg #[(.int .i64 0), (.int .i64 0), (.slice none 0 0), (.int .i64 0), (.slice none 0 0)]) 72 info145 rfl (by decide) (by omega) z145 (ok := fun _ => True) (okp := fun _ => True) (k145_mkM _ _ _ z145 (Kd.R_nil _ _ _ _ _) (Kd.R_nil _ _ _ _ _)) (fun _ hk => hk) trivial (od) (Nat.le_trans (Nat.mul_le_mul_right _ (od : (l0.length : Int).toNat ≤ 3909374676536)) (by omega)) (Below.refl _ _) (Nat.le_refl _) ?_; intro v354 w4 ho5 hb hg_ hnew_; clear hg_ hnew_; (first | rw [← Ny353.out] at ho5 | (simp only [Int.reduceToNat] at ho5; rw [← Ny353.out] at ho5)); have HO355 := Aside0.mk (Kd.S_lower ho5 (below_size (tb HB))); replace HB := bs HB hb; clear hb ho5))
   go_loopg [4] k (fun kq v4 w' => ∃ (x3_1 : List (S145)) (x4_1 : Int), v4 = .int .i64 x4_1 ∧ Aside0 (laws_toDescS.l0 kq l0 x3_1 x4_1 = some r) ∧ Aside0 (kq ≤ k) ∧ Aside0 (Kd.S k145 145 w' w.heap.size (fun _ => True) v354 x3_1) ∧ Aside0 (Below w.heap.size w w'))
   case atStart => exact ⟨(y353), (0), (by first | rfl | (simp; done) | (simp [*]; done)), H', ⟨Nat.le_refl _⟩, ⟨by (with_reducible repeat (first | apply Kd.S_alloc | apply Kd.S_drewN | apply Kd.S_drew)); exact HO355.out⟩, ⟨tb HB⟩⟩
   case round =>
    clear H'
    try clear c2
    try clear c2b0
    try clear c2b1
    try clear p2
    try clear c3
    try clear c3b0
    try clear c3b1
    obtain ⟨x3_1, x4_1, rfl, HA, HK1, HO_3, HB⟩ := hrel
    cases gk with
    | zero => exact absurd HA.out (by simp [laws_toDescS.l0])
    | succ k1 =>
     have H := HA.out
     clear HA
     simp only [laws_toDescS.l0] at H
     by_cases c6 : x4_1 < (l0.length : Int)
     ·rw [if_pos c6] at H
      have c6b0 := decide_eq_true c6
      clear c6
      by_cases c7 : 0 ≤ x4_1
      ·rw [if_pos c7] at H
       have c7b0 := decide_eq_true c7
       clear c7
       replace H := Option.bind_eq_some_iff.mp H
       obtain ⟨⟨t357, t358, t359, t362, t363⟩, A80, H⟩ := H
       replace H : (if x4_1 < (x3_1.length : Int) then (laws_toDescS.l0 k1 l0 (x3_1.set (x4_1 : Int).toNat (⟨t357, t358, t359, (⟨t362, t363⟩ : S70)⟩ : S145)) (wrap64 (x4_1 + 1))) else (none)) = some r := H
       have A8 := Aside0.mk A80
       clear A80
       by_cases c9 : x4_1 < (x3_1.length : Int)
       ·rw [if_pos c9] at H
        have c9b0 := decide_eq_true c9
        clear c9
        obtain ⟨y366, hy366⟩ : ∃ y_ : List (S145), y_ = (x3_1.set (x4_1 : Int).toNat (⟨t357, t358, t359, (⟨t362, t363⟩ : S70)⟩ : S145)) := ⟨_, rfl⟩
        replace H : (laws_toDescS.l0 k1 l0 y366 (wrap64 (x4_1 + 1))) = some r := by first | (rw [hy366]; with_reducible exact H) | (have H2_ := (Option.bind_some _ _).symm.trans H; rw [hy366]; with_reducible exact H2_) | (have H2_ := (Option.bind_some _ _).symm.trans H; with_reducible exact H2_) | with_reducible exact H | (rw [hy366]; exact H) | exact H
        have Ny366 := Aside0.mk hy366
        clear hy366
        have H' := Aside0.mk H
        clear H
        have p356 : 0 ≤ (x4_1 : Int) := od
        have q356 : x4_1 < (l0.length : Int) := od
        obtain ⟨ad356, A356_2, c356_2, A356_4, c356_4, e356, hx356_0, hx356_1, hx356_2, hx356_3, hx356_4, hl356_2, hi356_2, hl356_4, hi356_4⟩ := at_T138 HR0.out x4_1 p356 q356
        cases e356
        replace hx356_0 := ox HB hx356_0
        replace hx356_1 := ox HB hx356_1
        replace hx356_2 := ox HB hx356_2
        replace hx356_3 := ox HB hx356_3
        replace hx356_4 := ox HB hx356_4
        have HR356_2 := Aside0.mk hi356_2
        have HC356_2 := Aside0.mk hl356_2
        clear hi356_2 hl356_2
        have HR356_4 := Aside0.mk hi356_4
        have HC356_4 := Aside0.mk hl356_4
        clear hi356_4 hl356_4
        replace p356 := eq_true p356
        replace q356 := eq_true q356
        go_wp2_with (first | ((with_reducible refine gate_callee (f := 98) rfl ?_); refine gL 20 Try.func98 #[.agg #[.int .i64 ((rd_T138 l0 x4_1).f0), .int .i64 ((rd_T138 l0 x4_1).f1), .slice A356_2 ((rd_T138 l0 x4_1).f2).length c356_2, .int .i64 ((rd_T138 l0 x4_1).f3.f0), .slice A356_4 ((rd_T138 l0 x4_1).f3.f1).length c356_4]] ?_; (with_reducible refine (laws_toDesc.calls k1 ((rd_T138 l0 x4_1).f0) ((rd_T138 l0 x4_1).f1) _ _ ((rd_T138 l0 x4_1).f2) ((rd_T138 l0 x4_1).f3.f0) _ _ ((rd_T138 l0 x4_1).f3.f1) t357 t358 t359 t362 t363 _ ?side1 ?side2 ?side3 ?side4 A8.out).mono ?_); (case side1 => exact kc HR356_2 HB); (case side2 => exact HC356_2.out); (case side3 => exact kc HR356_4 HB); (case side4 => exact HC356_4.out); rintro e w11 ⟨v360, v364, rfl, ho0, ho1, hb⟩; refine ⟨_, rfl, ?_⟩; replace HO_3 := Aside0.mk (Kd.S_mono (Kd.S_told (Kd.S_told (Kd.S_old (by (with_reducible repeat (first | apply Kd.S_alloc | apply Kd.S_drewN | apply Kd.S_drew)); exact HO_3.out) hb) (Kd.R_base ho0)) (Kd.R_base ho1)) (fun _ h_ => h_.1)); have HO361 := Aside0.mk (Kd.R_lower ho0 (below_size (tb HB))); have HO365 := Aside0.mk (Kd.R_lower ho1 (below_size (tb HB))); replace HB := bs HB hb; (try clear hb); (try clear hb2); (try clear hk); (try clear hi); (try clear ho0); (try clear ho1); have p10 : 0 ≤ (x4_1 : Int) := od; have q10 : (x4_1 : Int) < ((x3_1.length : Int) : Int) := od; obtain ⟨go10, co10, eo10, gb10, gl10, cl10, HG10⟩ := Kd.S_form HO_3.out (by omega); (first | cases eo10 | (injection eo10 with ea_ en_ ec_; (first | subst ea_ | (injection ea_ with ea_; subst ea_)); subst ec_; clear en_)); have GB10 := Aside0.mk gb10; have GG10 := Aside0.mk HG10; clear gb10 gl10 HG10; obtain ⟨_, ce10, hcl10, hM10, hcc10, hfr10, _, _⟩ := Kd.S_elem HO_3.out z145 (x4_1 : Int) p10 q10; obtain ⟨ve10_2, ve10_4, rfl, ge10_2, ge10_4⟩ := k145_openM hM10; have hx10_0 : w11.cell? ⟨go10, (x4_1 : Int).toNat * 5, none⟩ = some (.int .i64 ((rd_T145 x3_1 x4_1).f0)) := hcc10 0 _ rfl; have hx10_1 : w11.cell? ⟨go10, (x4_1 : Int).toNat * 5 + 1, none⟩ = some (.int .i64 ((rd_T145 x3_1 x4_1).f1)) := hcc10 1 _ rfl; have hx10_2 : w11.cell? ⟨go10, (x4_1 : Int).toNat * 5 + 2, none⟩ = some (ve10_2) := hcc10 2 _ rfl; have hx10_3 : w11.cell? ⟨go10, (x4_1 : Int).toNat * 5 + 3, none⟩ = some (.int .i64 ((rd_T145 x3_1 x4_1).f3.f0)) := hcc10 3 _ rfl; have hx10_4 : w11.cell? ⟨go10, (x4_1 : Int).toNat * 5 + 4, none⟩ = some (ve10_4) := hcc10 4 _ rfl; have hf10_0 : w11.frozen? ⟨go10, (x4_1 : Int).toNat * 5, none⟩ = false := hfr10 0; have hf10_1 : w11.frozen? ⟨go10, (x4_1 : Int).toNat * 5 + 1, none⟩ = false := hfr10 1; have hf10_2 : w11.frozen? ⟨go10, (x4_1 : Int).toNat * 5 + 2, none⟩ = false := hfr10 2; have hf10_3 : w11.frozen? ⟨go10, (x4_1 : Int).toNat * 5 + 3, none⟩ = false := hfr10 3; have hf10_4 : w11.frozen? ⟨go10, (x4_1 : Int).toNat * 5 + 4, none⟩ = false := hfr10 4; clear hcl10 hcc10 hfr10 hM10; replace p10 := eq_true p10; replace q10 := eq_true q10; obtain ⟨Ao14, co14, eo14⟩ := Kd.R_slice HO361.out; subst eo14; obtain ⟨Ao15, co15, eo15⟩ := Kd.R_slice HO365.out; subst eo15; have n_ := Aside0.mk (Kd.S_mono (ok' := (fun k_ => some k_ ≠ (.slice Ao14 t359.length co14 : Value).ownBlock ∧ some k_ ≠ (.slice Ao15 t363.length co15 : Value).ownBlock)) HO_3.out (fun k_ hk => ⟨hk.1.2, hk.2⟩)); clear HO_3; have HO_3 := n_; clear n_; have HX12 := Aside0.mk (show Kd.S k145 145 w11 w.heap.size (fun k_ => ((fun _ => True)) k_ ∧ ¬ ((fun k_ => some k_ = (.slice Ao14 t359.length co14 : Value).ownBlock ∨ some k_ = (.slice Ao15 t363.length co15 : Value).ownBlock)) k_) (.slice (some ⟨go10, 0, none⟩) x3_1.length co10) x3_1 from (by (with_reducible repeat (first | apply Kd.S_alloc | apply Kd.S_drewN | apply Kd.S_drew)); exact Kd.S_mono HO_3.out (fun k_ hk => ⟨trivial, fun e_ => e_.elim (fun h_ => hk.1 h_) (fun h_ => hk.2 h_)⟩))); obtain ⟨oki12, ce12, hcl12, hM12, hcc12, hfr12, hoki12, hH12⟩ := Kd.S_elem HX12.out z145 (x4_1 : Int) (od) (by have h_ : (x4_1 : Int) < ((x3_1.length : Int) : Int) := od; first | exact h_ | (have e_ := (Kd.S_reads' HO_3.out).1; omega) | simpa using h_); obtain ⟨ve12_2, ve12_4, rfl, ge12_2, ge12_4⟩ := k145_openM hM12; have HP12 := Kd.S_seg hH12 (od) (by have h_ : (x4_1 : Int) < ((x3_1.length : Int) : Int) := od; first | exact h_ | (have e_ := (Kd.S_reads' HO_3.out).1; omega) | simpa using h_) (seg := [.int .i64 t357, .int .i64 t358, .slice Ao14 t359.length co14, .int .i64 t362, .slice Ao15 t363.length co15]) (j := 0) (show 5 ≤ 5 from by decide) (x' := (⟨t357, t358, t359, (⟨t362, t363⟩ : S70)⟩ : S145)) (k145_mkM _ _ _ (⟨t357, t358, t359, (⟨t362, t363⟩ : S70)⟩ : S145) (Kd.R_mono (Kd.R_tight rfl (Kd.R_mono (ok' := fun k_ => ((fun _ => True)) k_ ∧ k_ ≠ go10) (Kd.R_apart' (HO361.out) (Kd.S_typed HO_3.out) (by decide)) (fun k_ hk => ⟨trivial, fun e_ => (hk.2) (by rw [e_]; rfl)⟩))) (fun _ h_ => Or.inr (Or.inl h_))) (Kd.R_mono (Kd.R_tight rfl (Kd.R_mono (ok' := fun k_ => ((fun _ => True)) k_ ∧ k_ ≠ go10) (Kd.R_apart' (HO365.out) (Kd.S_typed HO_3.out) (by decide)) (fun k_ hk => ⟨trivial, fun e_ => (hk.2) (by rw [e_]; rfl)⟩))) (fun _ h_ => Or.inr (Or.inr (h_))))) (fun _ hk => hk) (fun k_ hk_ => hk_.elim (fun h_ => ((Kd.R_mono (ok' := fun k_ => ((fun _ => True)) k_ ∧ k_ ≠ go10) (Kd.R_apart' (HO361.out) (Kd.S_typed HO_3.out) (by decide)) (fun k_ hk => ⟨trivial, fun e_ => (hk.2) (by rw [e_]; rfl)⟩))).1 k_ h_.symm) (fun h_ => ((Kd.R_mono (ok' := fun k_ => ((fun _ => True)) k_ ∧ k_ ≠ go10) (Kd.R_apart' (HO365.out) (Kd.S_typed HO_3.out) (by decide)) (fun k_ hk => ⟨trivial, fun e_ => (hk.2) (by rw [e_]; rfl)⟩))).1 k_ h_.symm)); have hx12_0 := hcc12 0 _ rfl; (try simp only [show (k145).sz = 5 from rfl, Nat.mul_one, Nat.add_zero] at hx12_0); have hf12_0 := hfr12 0; (try simp only [show (k145).sz = 5 from rfl, Nat.mul_one, Nat.add_zero] at hf12_0); have hx12_1 := hcc12 1 _ rfl; (try simp only [show (k145).sz = 5 from rfl, Nat.mul_one, Nat.add_zero] at hx12_1); have hf12_1 := hfr12 1; (try simp only [show (k145).sz = 5 from rfl, Nat.mul_one, Nat.add_zero] at hf12_1); have hx12_2 := hcc12 2 _ rfl; (try simp only [show (k145).sz = 5 from rfl, Nat.mul_one, Nat.add_zero] at hx12_2); have hf12_2 := hfr12 2; (try simp only [show (k145).sz = 5 from rfl, Nat.mul_one, Nat.add_zero] at hf12_2); have hx12_3 := hcc12 3 _ rfl; (try simp only [show (k145).sz = 5 from rfl, Nat.mul_one, Nat.add_zero] at hx12_3); have hf12_3 := hfr12 3; (try simp only [show (k145).sz = 5 from rfl, Nat.mul_one, Nat.add_zero] at hf12_3); have hx12_4 := hcc12 4 _ rfl; (try simp only [show (k145).sz = 5 from rfl, Nat.mul_one, Nat.add_zero] at hx12_4); have hf12_4 := hfr12 4; (try simp only [show (k145).sz = 5 from rfl, Nat.mul_one, Nat.add_zero] at hf12_4); clear hcl12 hcc12 hfr12 hM12 hoki12 hH12) | ((with_reducible refine gate_store (t := 145) (p := 21) rfl ?_); refine store_event (t := 145) (p := 21) (v := ?vo_w13) (w1 := (((((w11.setCell ⟨go10, (x4_1 : Int).toNat * 5, none⟩ (.int .i64 t357)).setCell ⟨go10, (x4_1 : Int).toNat * 5 + 1, none⟩ (.int .i64 t358)).setCell ⟨go10, (x4_1 : Int).toNat * 5 + 2, none⟩ (.slice Ao14 t359.length co14)).setCell ⟨go10, (x4_1 : Int).toNat * 5 + 3, none⟩ (.int .i64 t362)).setCell ⟨go10, (x4_1 : Int).toNat * 5 + 4, none⟩ (.slice Ao15 t363.length co15))) ?hg ?ho ?hn ?hr ?_; (case ho => rfl); (case hg => rfl); (case hn => rfl); (case hr => first | (go_simp; done) | (go_simp; rfl)); intro w13 hw; have hg : w11.grownBy w13 (some go10) := (by rw [hw]; exact HP12.2); have hp_ : Kd.S k145 145 w13 w.heap.size (fun _ => True) (.slice (some ⟨go10, 0, none⟩) x3_1.length co10) y366 := (by rw [hw, Ny366.out]; exact HP12.1); clear HP12; replace HO_3 := Aside0.mk (hp_); replace HB := Aside0.mk ((by rw [hw]; exact below_set (below_set (below_set (below_set (below_set (HB.out) GB10.out) GB10.out) GB10.out) GB10.out) GB10.out : Below w.heap.size w w13)); clear HO361 HO365; clear hg hw hp_))
        go_roundg k1
        case measure => have := HK1.out; omega
        case rel => exact ⟨(y366), (wrap64 (x4_1 + 1)), (by first | rfl | (simp; done) | (simp [*]; done)), H', ⟨by have := HK1.out; omega⟩, ⟨by (with_reducible repeat (first | apply Kd.S_alloc | apply Kd.S_drewN | apply Kd.S_drew)); exact HO_3.out⟩, ⟨tb HB⟩⟩
       ·rw [if_neg c9] at H
        exact absurd H (by simp)
      ·rw [if_neg c7] at H
       exact absurd H (by simp)
     ·rw [if_neg c6] at H
      have c6b0 := decide_eq_false c6
      clear c6
      obtain rfl := Option.some.inj H
      go_wp2
      go_ret
      exact ⟨_, er, by (with_reducible repeat (first | apply Kd.S_alloc | apply Kd.S_drewN | apply Kd.S_drew)); exact HO_3.out, tb HB⟩
  ·rw [if_neg c3] at H
   exact absurd H (by simp)
 ·rw [if_neg c2] at H
  exact absurd H (by simp)
def impl_from.f (a0 : Int) (a1 : Int) (a2 : Int) : Option (Bool) := if a0 ≥ a1 then (some (decide (a0 ≤ a2))) else (some false)
set_option maxHeartbeats 8000000 in
set_option maxRecDepth 100000 in
theorem impl_from.calls (a0 : Int) (a1 : Int) (a2 : Int) (r : Bool) (w : World) (h : impl_from.f a0 a1 a2 = some r) :
  Calls Try.prog 85 #[.int .i64 a0, .int .i64 a1, .int .i64 a2] w fun e w' => e = .returned (.bool r) ∧ Drawn0 w w' := by
 have H : (if a0 ≥ a1 then (some (decide (a0 ≤ a2))) else (some false)) = some r := h
 clear h
 by_cases c4 : a0 ≥ a1
 ·rw [if_pos c4] at H
  have c4b0 := decide_eq_true c4
  clear c4
  obtain rfl := Option.some.inj H
  go_enter Try.func85, Try.ntmps85
  go_wp2
  go_ret
  exact ⟨by first | rfl | (simp; done) | (simp [*]; done), by repeat (first | exact Drawn0.refl _ | apply Drawn0.step)⟩
 ·rw [if_neg c4] at H
  have c4b0 := decide_eq_false c4
  clear c4
  obtain rfl := Option.some.inj H
  go_enter Try.func85, Try.ntmps85
  go_wp2
  go_ret
  exact ⟨by first | rfl | (simp; done) | (simp [*]; done), by repeat (first | exact Drawn0.refl _ | apply Drawn0.step)⟩
def impl_Entries.l0 : Nat → Int → List (S166) → Int → Int → Option (Int × Int × Int × Bool)
 | 0, _, _, _, _ => none
 | k + 1, x1, x9, x10, x11 => if x11 < x10 then (if 0 ≤ x11 then (if x11 < (x9.length : Int) then (if ((rd_T166 x9 x11).f0) = x1 then (some ((rd_T166 x9 x11).f0, (rd_T166 x9 x11).f1, (rd_T166 x9 x11).f2, true)) else (impl_Entries.l0 k x1 x9 x10 (wrap64 (x11 + 1)))) else (none)) else (none)) else (some (0, 0, 0, false))
def impl_Entries.f (k : Nat) (a0_0 : Int) (a0_1 : Int) (l0_2 : List (S166)) (a0_3 : Int) (l0_4 : List Int) (a1 : Int) : Option (Int × Int × Int × Bool) := impl_Entries.l0 k a1 l0_2 (l0_2.length : Int) 0
theorem impl_Entries.mono_l : ∀ k, (∀ y0 y1 y2 y3, LeO (impl_Entries.l0 k y0 y1 y2 y3) (impl_Entries.l0 (k + 1) y0 y1 y2 y3))
 | 0 => fun _ _ _ _ r h => by simp [impl_Entries.l0] at h
 | k + 1 => by
  have ih0 := impl_Entries.mono_l k
  ·intro y0 y1 y2 y3
   unfold impl_Entries.l0
   repeat' first
   | (with_reducible exact ih0 _ _ _ _)
   | (with_reducible exact LeO.refl _)
   | (with_reducible exact LeO.none _)
   | (with_reducible refine LeO.ite ?_ ?_)
   | (with_reducible refine LeO.bind ?_ (fun _ => ?_))
   | exact ih0 _ _ _ _
   | exact LeO.none _
   | refine LeO.ite ?_ ?_
   | refine LeO.bind ?_ (fun _ => ?_)
theorem impl_Entries.mono : ∀ a0 a1 a2 a3 a4 a5 k, LeO (impl_Entries.f k a0 a1 a2 a3 a4 a5) (impl_Entries.f (k + 1) a0 a1 a2 a3 a4 a5) := by
 intro a0 a1 a2 a3 a4 a5 k
 have ih0 := impl_Entries.mono_l k
 unfold impl_Entries.f
 repeat' first
   | (with_reducible exact ih0 _ _ _ _)
   | (with_reducible exact LeO.refl _)
   | (with_reducible exact LeO.none _)
   | (with_reducible refine LeO.ite ?_ ?_)
   | (with_reducible refine LeO.bind ?_ (fun _ => ?_))
   | exact ih0 _ _ _ _
   | exact LeO.none _
   | refine LeO.ite ?_ ?_
   | refine LeO.bind ?_ (fun _ => ?_)
set_option maxHeartbeats 8000000 in
set_option maxRecDepth 100000 in
theorem impl_Entries.calls (k : Nat) (a0_0 : Int) (a0_1 : Int) (A0_2 : Option Addr) (c0_2 : Nat) (l0_2 : List (S166)) (a0_3 : Int) (A0_4 : Option Addr) (c0_4 : Nat) (l0_4 : List Int) (a1 : Int) (r1 : Int) (r2 : Int) (r3 : Int) (r4 : Bool) (w : World) (hr0_2 : Kd.C k166 w A0_2 l0_2.length l0_2) (hc0_2 : l0_2.length ≤ c0_2) (hr0_4 : Kd.C (Kd.int .i64) w A0_4 l0_4.length l0_4) (hc0_4 : l0_4.length ≤ c0_4) (h : impl_Entries.f k a0_0 a0_1 l0_2 a0_3 l0_4 a1 = some (r1, r2, r3, r4)) :
  Calls Try.prog 157 #[.agg #[.int .i64 a0_0, .int .i64 a0_1, .slice A0_2 l0_2.length c0_2, .int .i64 a0_3, .slice A0_4 l0_4.length c0_4], .int .i64 a1] w fun e w' => e = .returned (.tuple #[.agg #[.int .i64 r1, .int .i64 r2, .int .i64 r3], .bool r4]) ∧ Below w.heap.size w w' := by
 have hu145 := Try.underlying145
 have hu166 := Try.underlying166
 have HR0_2 := Aside0.mk hr0_2
 have HC0_2 := Aside0.mk hc0_2
 clear hr0_2 hc0_2
 have HR0_4 := Aside0.mk hr0_4
 have HC0_4 := Aside0.mk hc0_4
 clear hr0_4 hc0_4
 have HB := Aside0.mk (Below.refl w.heap.size w)
 have H : (impl_Entries.l0 k a1 l0_2 (l0_2.length : Int) 0) = some (r1, r2, r3, r4) := h
 clear h
 have H' := Aside0.mk H
 clear H
 go_enter Try.func157, Try.ntmps157
 go_wp2_with (first | ((with_reducible refine gate_dst (N := 2) rfl ?_); refine bx (N := 2) (cs := #[.int .i64 a0_0, .int .i64 a0_1, .slice A0_2 l0_2.length c0_2, .int .i64 a0_3, .slice A0_4 l0_4.length c0_4]) (t := 145) ?_; intro gb367 hg w3 hbox hb; have BK367 := Aside0.mk (hbox); have GE367 := Aside0.mk (ge_ hg HB); replace HB := bs HB hb; clear hb hbox hg) | ((with_reducible refine gate_dst (N := 4) rfl ?_); refine bx (N := 4) (cs := #[.int .i64 0, .int .i64 0, .int .i64 0]) (t := 166) ?_; intro gb368 hg w4 hbox hb; have BK368 := Aside0.mk (hbox); have GE368 := Aside0.mk (ge_ hg HB); replace HB := bs HB hb; have NB367_368 := Aside0.mk (nl_ hg BK367); have NB368_367 := Aside0.mk (ng_ hg BK367); replace BK367 := bb BK367 hb; clear hb hbox hg; have hnb5 := NB367_368.out; have hnc5 := NB368_367.out; obtain ⟨hcz6_0, hcz6_1, hcz6_2, hcz6_3, hcz6_4, hfz6_0, hfz6_1, hfz6_2, hfz6_3, hfz6_4⟩ := cs5_ BK367))
 go_loopg [11] k (fun kq v11 w' => ∃ (x11_1 : Int) (x369000_1 : Int) (x369001_1 : Int) (x369002_1 : Int), v11 = .int .i64 x11_1 ∧ Aside0 (impl_Entries.l0 kq a1 l0_2 (l0_2.length : Int) x11_1 = some (r1, r2, r3, r4)) ∧ Aside0 (kq ≤ k) ∧ Aside0 (w'.heap[gb367]? = some (.cells #[.int .i64 a0_0, .int .i64 a0_1, (.slice A0_2 l0_2.length c0_2), .int .i64 a0_3, (.slice A0_4 l0_4.length c0_4)] 145 (0, 0))) ∧ Aside0 (w'.heap[gb368]? = some (.cells #[.int .i64 x369000_1, .int .i64 x369001_1, .int .i64 x369002_1] 166 (0, 0))) ∧ Aside0 (Below w.heap.size w w'))
 case atStart => exact ⟨(0), (0), (0), (0), (by first | rfl | (simp; done) | (simp [*]; done)), H', ⟨Nat.le_refl _⟩, ⟨by (with_reducible repeat (first | refine blk_drewN ?_ _ | refine blk_drew ?_ | refine blk_alloc ?_ _)); exact BK367.out⟩, ⟨by (with_reducible repeat (first | refine blk_drewN ?_ _ | refine blk_drew ?_ | refine blk_alloc ?_ _)); exact BK368.out⟩, ⟨tb HB⟩⟩
 case round =>
  clear H'
  try clear c1
  try clear p2
  try clear c5
  try clear hcz6_0
  try clear hcz6_1
  try clear hcz6_2
  try clear hcz6_3
  try clear hcz6_4
  try clear hfz6_0
  try clear hfz6_1
  try clear hfz6_2
  try clear hfz6_3
  try clear hfz6_4
  obtain ⟨x11_1, x369000_1, x369001_1, x369002_1, rfl, HA, HK1, BK367, BK368, HB⟩ := hrel
  cases gk with
  | zero => exact absurd HA.out (by simp [impl_Entries.l0])
  | succ k1 =>
   have H := HA.out
   clear HA
   simp only [impl_Entries.l0] at H
   by_cases c7 : x11_1 < (l0_2.length : Int)
   ·rw [if_pos c7] at H
    have c7b0 := decide_eq_true c7
    clear c7
    by_cases c8 : 0 ≤ x11_1
    ·rw [if_pos c8] at H
     have c8b0 := decide_eq_true c8
     clear c8
     by_cases c9 : x11_1 < (l0_2.length : Int)
     ·rw [if_pos c9] at H
      have c9b0 := decide_eq_true c9
      clear c9
      by_cases c10 : ((rd_T166 l0_2 x11_1).f0) = a1
      ·rw [if_pos c10] at H
       have c10b0 : (((rd_T166 l0_2 x11_1).f0) == a1) = true := beq_iff_eq.mpr c10
       have c10b1 : (((rd_T166 l0_2 x11_1).f0) != a1) = false := bne_eq_false_iff_eq.mpr c10
       clear c10
       simp only [Option.some.injEq, Prod.mk.injEq] at H
       obtain ⟨rfl, rfl, rfl, rfl⟩ := H
       have p369 : 0 ≤ (x11_1 : Int) := od
       have q369 : x11_1 < (l0_2.length : Int) := od
       obtain ⟨ad369, e369, hx369_0, hx369_1, hx369_2⟩ := at_T166 HR0_2.out x11_1 p369 q369
       cases e369
       replace hx369_0 := ox HB hx369_0
       replace hx369_1 := ox HB hx369_1
       replace hx369_2 := ox HB hx369_2
       replace p369 := eq_true p369
       replace q369 := eq_true q369
       go_wp2_with (first | ((with_reducible refine gate_dst (N := 7) rfl ?_); refine bx (N := 7) (cs := #[.int .i64 0, .int .i64 0, .int .i64 0]) (t := 166) ?_; intro gb370 hg w11 hbox hb; have BK370 := Aside0.mk (hbox); have GE370 := Aside0.mk (ge_ hg HB); replace HB := bs HB hb; have NB367_370 := Aside0.mk (nl_ hg BK367); have NB370_367 := Aside0.mk (ng_ hg BK367); replace BK367 := bb BK367 hb; have NB368_370 := Aside0.mk (nl_ hg BK368); have NB370_368 := Aside0.mk (ng_ hg BK368); replace BK368 := bb BK368 hb; clear hb hbox hg; have hnb12 := NB370_367.out; have hnc12 := NB367_370.out; have hnb13 := NB370_368.out; have hnc13 := NB368_370.out; obtain ⟨hcz14_0, hcz14_1, hcz14_2, hfz14_0, hfz14_1, hfz14_2⟩ := cs3_ BK370; have hnb15 := NB368_367.out; have hnc15 := NB367_368.out; obtain ⟨hcz16_0, hcz16_1, hcz16_2, hfz16_0, hfz16_1, hfz16_2⟩ := cs3_ BK368))
       refine bodyPost_ret (results_ct rfl _ _ gb368 166 #[.int .i64 ((rd_T166 l0_2 x11_1).f0), .int .i64 ((rd_T166 l0_2 x11_1).f1), .int .i64 ((rd_T166 l0_2 x11_1).f2)] (0, 0) _ rfl (by (with_reducible repeat (first | refine blk_drewN ?_ _ | refine blk_drew ?_ | refine blk_alloc ?_ _)); refine blk_put (cs := #[.int .i64 ((rd_T166 l0_2 x11_1).f0), .int .i64 ((rd_T166 l0_2 x11_1).f1), .int .i64 x369002_1]) ?_ 2 _ rfl; (with_reducible repeat (first | refine blk_drewN ?_ _ | refine blk_drew ?_ | refine blk_alloc ?_ _)); refine blk_put (cs := #[.int .i64 ((rd_T166 l0_2 x11_1).f0), .int .i64 x369001_1, .int .i64 x369002_1]) ?_ 1 _ rfl; (with_reducible repeat (first | refine blk_drewN ?_ _ | refine blk_drew ?_ | refine blk_alloc ?_ _)); refine blk_put (cs := #[.int .i64 x369000_1, .int .i64 x369001_1, .int .i64 x369002_1]) ?_ 0 _ rfl; (with_reducible repeat (first | refine blk_drewN ?_ _ | refine blk_drew ?_ | refine blk_alloc ?_ _)); refine blk_far ?_ NB368_370.out _; (with_reducible repeat (first | refine blk_drewN ?_ _ | refine blk_drew ?_ | refine blk_alloc ?_ _)); refine blk_far ?_ NB368_370.out _; (with_reducible repeat (first | refine blk_drewN ?_ _ | refine blk_drew ?_ | refine blk_alloc ?_ _)); refine blk_far ?_ NB368_370.out _; (with_reducible repeat (first | refine blk_drewN ?_ _ | refine blk_drew ?_ | refine blk_alloc ?_ _)); exact BK368.out) Try.underlying166 rfl (by kernel_rfl)) rfl ?_
       exact ⟨er, tb HB⟩
      ·rw [if_neg c10] at H
       have c10b0 : (((rd_T166 l0_2 x11_1).f0) == a1) = false := beq_eq_false_iff_ne.mpr c10
       have c10b1 : (((rd_T166 l0_2 x11_1).f0) != a1) = true := bne_iff_ne.mpr c10
       have H' := Aside0.mk H
       clear H
       have p369 : 0 ≤ (x11_1 : Int) := od
       have q369 : x11_1 < (l0_2.length : Int) := od
       obtain ⟨ad369, e369, hx369_0, hx369_1, hx369_2⟩ := at_T166 HR0_2.out x11_1 p369 q369
       cases e369
       replace hx369_0 := ox HB hx369_0
       replace hx369_1 := ox HB hx369_1
       replace hx369_2 := ox HB hx369_2
       replace p369 := eq_true p369
       replace q369 := eq_true q369
       go_wp2_with (first | ((with_reducible refine gate_dst (N := 7) rfl ?_); refine bx (N := 7) (cs := #[.int .i64 0, .int .i64 0, .int .i64 0]) (t := 166) ?_; intro gb370 hg w17 hbox hb; have BK370 := Aside0.mk (hbox); have GE370 := Aside0.mk (ge_ hg HB); replace HB := bs HB hb; have NB367_370 := Aside0.mk (nl_ hg BK367); have NB370_367 := Aside0.mk (ng_ hg BK367); replace BK367 := bb BK367 hb; have NB368_370 := Aside0.mk (nl_ hg BK368); have NB370_368 := Aside0.mk (ng_ hg BK368); replace BK368 := bb BK368 hb; clear hb hbox hg; have hnb18 := NB370_367.out; have hnc18 := NB367_370.out; have hnb19 := NB370_368.out; have hnc19 := NB368_370.out; obtain ⟨hcz20_0, hcz20_1, hcz20_2, hfz20_0, hfz20_1, hfz20_2⟩ := cs3_ BK370))
       go_roundg k1
       case measure => have := HK1.out; omega
       case rel => exact ⟨(wrap64 (x11_1 + 1)), (x369000_1), (x369001_1), (x369002_1), (by first | rfl | (simp; done) | (simp [*]; done)), H', ⟨by have := HK1.out; omega⟩, ⟨bf BK367⟩, ⟨bf BK368⟩, ⟨tb HB⟩⟩
     ·rw [if_neg c9] at H
      exact absurd H (by simp)
    ·rw [if_neg c8] at H
     exact absurd H (by simp)
   ·rw [if_neg c7] at H
    have c7b0 := decide_eq_false c7
    clear c7
    simp only [Option.some.injEq, Prod.mk.injEq] at H
    obtain ⟨rfl, rfl, rfl, rfl⟩ := H
    have hnb21 := NB368_367.out
    have hnc21 := NB367_368.out
    obtain ⟨hcz22_0, hcz22_1, hcz22_2, hfz22_0, hfz22_1, hfz22_2⟩ := cs3_ BK368
    go_wp2
    refine bodyPost_ret (results_ct rfl _ _ gb368 166 #[.int .i64 0, .int .i64 0, .int .i64 0] (0, 0) _ rfl (by (with_reducible repeat (first | refine blk_drewN ?_ _ | refine blk_drew ?_ | refine blk_alloc ?_ _)); refine blk_put (cs := #[.int .i64 0, .int .i64 0, .int .i64 x369002_1]) ?_ 2 _ rfl; (with_reducible repeat (first | refine blk_drewN ?_ _ | refine blk_drew ?_ | refine blk_alloc ?_ _)); refine blk_put (cs := #[.int .i64 0, .int .i64 x369001_1, .int .i64 x369002_1]) ?_ 1 _ rfl; (with_reducible repeat (first | refine blk_drewN ?_ _ | refine blk_drew ?_ | refine blk_alloc ?_ _)); refine blk_put (cs := #[.int .i64 x369000_1, .int .i64 x369001_1, .int .i64 x369002_1]) ?_ 0 _ rfl; (with_reducible repeat (first | refine blk_drewN ?_ _ | refine blk_drew ?_ | refine blk_alloc ?_ _)); exact BK368.out) Try.underlying166 rfl (by kernel_rfl)) rfl ?_
    exact ⟨er, tb HB⟩
def impl_ValueAt.f (k : Nat) (l0 : List (S141)) (l1 : List (S145)) (a2 : Int) : Option (Int) := (impl_from.f a2 0 (wrap64 ((l0.length : Int) - 1))).bind fun t371 => (if t371 = true then (if 0 ≤ a2 then (if a2 < (l0.length : Int) then (if ((rd_T141 l0 a2).f1) = 0 then (some ((rd_T141 l0 a2).f0)) else ((impl_from.f ((rd_T141 l0 a2).f1) 1 (l1.length : Int)).bind fun t374 => (if t374 = true then (if 0 ≤ (wrap64 (((rd_T141 l0 a2).f1) - 1)) then (if (wrap64 (((rd_T141 l0 a2).f1) - 1)) < (l1.length : Int) then ((impl_Entries.f k ((rd_T145 l1 (wrap64 (((rd_T141 l0 a2).f1) - 1))).f0) ((rd_T145 l1 (wrap64 (((rd_T141 l0 a2).f1) - 1))).f1) ((rd_T145 l1 (wrap64 (((rd_T141 l0 a2).f1) - 1))).f2) ((rd_T145 l1 (wrap64 (((rd_T141 l0 a2).f1) - 1))).f3.f0) ((rd_T145 l1 (wrap64 (((rd_T141 l0 a2).f1) - 1))).f3.f1) a2).bind fun bt377 => (if ((rd_T145 l1 (wrap64 (((rd_T141 l0 a2).f1) - 1))).f0) = ((rd_T141 l0 a2).f2) then (if ((rd_T145 l1 (wrap64 (((rd_T141 l0 a2).f1) - 1))).f1) = 2 then (some bt377.2.2.1) else (some bt377.2.1)) else (some bt377.2.1))) else (none)) else (none)) else (some 0)))) else (none)) else (none)) else (some 0))
theorem impl_ValueAt.mono : ∀ a0 a1 a2 k, LeO (impl_ValueAt.f k a0 a1 a2) (impl_ValueAt.f (k + 1) a0 a1 a2) := by
 intro a0 a1 a2 k
 unfold impl_ValueAt.f
 repeat' first
   | (with_reducible exact impl_Entries.mono _ _ _ _ _ _ _)
   | (with_reducible exact LeO.refl _)
   | (with_reducible exact LeO.none _)
   | (with_reducible refine LeO.ite ?_ ?_)
   | (with_reducible refine LeO.bind ?_ (fun _ => ?_))
   | exact impl_Entries.mono _ _ _ _ _ _ _
   | exact LeO.none _
   | refine LeO.ite ?_ ?_
   | refine LeO.bind ?_ (fun _ => ?_)
set_option maxHeartbeats 8000000 in
set_option maxRecDepth 100000 in
theorem impl_ValueAt.calls (k : Nat) (A0 : Option Addr) (c0 : Nat) (l0 : List (S141)) (A1 : Option Addr) (c1 : Nat) (l1 : List (S145)) (a2 : Int) (r : Int) (w : World) (hr0 : Kd.C k141 w A0 l0.length l0) (hc0 : l0.length ≤ c0) (hr1 : Kd.C k145 w A1 l1.length l1) (hc1 : l1.length ≤ c1) (h : impl_ValueAt.f k l0 l1 a2 = some r) :
  Calls Try.prog 99 #[.slice A0 l0.length c0, .slice A1 l1.length c1, .int .i64 a2] w fun e w' => e = .returned (.int .i64 r) ∧ Below w.heap.size w w' := by
 have hu141 := Try.underlying141
 have hu145 := Try.underlying145
 have hu166 := Try.underlying166
 have HR0 := Aside0.mk hr0
 have HC0 := Aside0.mk hc0
 clear hr0 hc0
 have HR1 := Aside0.mk hr1
 have HC1 := Aside0.mk hc1
 clear hr1 hc1
 have HB := Aside0.mk (Below.refl w.heap.size w)
 have H : ((impl_from.f a2 0 (wrap64 ((l0.length : Int) - 1))).bind fun t371 => (if t371 = true then (if 0 ≤ a2 then (if a2 < (l0.length : Int) then (if ((rd_T141 l0 a2).f1) = 0 then (some ((rd_T141 l0 a2).f0)) else ((impl_from.f ((rd_T141 l0 a2).f1) 1 (l1.length : Int)).bind fun t374 => (if t374 = true then (if 0 ≤ (wrap64 (((rd_T141 l0 a2).f1) - 1)) then (if (wrap64 (((rd_T141 l0 a2).f1) - 1)) < (l1.length : Int) then ((impl_Entries.f k ((rd_T145 l1 (wrap64 (((rd_T141 l0 a2).f1) - 1))).f0) ((rd_T145 l1 (wrap64 (((rd_T141 l0 a2).f1) - 1))).f1) ((rd_T145 l1 (wrap64 (((rd_T141 l0 a2).f1) - 1))).f2) ((rd_T145 l1 (wrap64 (((rd_T141 l0 a2).f1) - 1))).f3.f0) ((rd_T145 l1 (wrap64 (((rd_T141 l0 a2).f1) - 1))).f3.f1) a2).bind fun bt377 => (if ((rd_T145 l1 (wrap64 (((rd_T141 l0 a2).f1) - 1))).f0) = ((rd_T141 l0 a2).f2) then (if ((rd_T145 l1 (wrap64 (((rd_T141 l0 a2).f1) - 1))).f1) = 2 then (some bt377.2.2.1) else (some bt377.2.1)) else (some bt377.2.1))) else (none)) else (none)) else (some 0)))) else (none)) else (none)) else (some 0))) = some r := h
 clear h
 replace H := Option.bind_eq_some_iff.mp H
 obtain ⟨t371, A40, H⟩ := H
 replace H : (if t371 = true then (if 0 ≤ a2 then (if a2 < (l0.length : Int) then (if ((rd_T141 l0 a2).f1) = 0 then (some ((rd_T141 l0 a2).f0)) else ((impl_from.f ((rd_T141 l0 a2).f1) 1 (l1.length : Int)).bind fun t374 => (if t374 = true then (if 0 ≤ (wrap64 (((rd_T141 l0 a2).f1) - 1)) then (if (wrap64 (((rd_T141 l0 a2).f1) - 1)) < (l1.length : Int) then ((impl_Entries.f k ((rd_T145 l1 (wrap64 (((rd_T141 l0 a2).f1) - 1))).f0) ((rd_T145 l1 (wrap64 (((rd_T141 l0 a2).f1) - 1))).f1) ((rd_T145 l1 (wrap64 (((rd_T141 l0 a2).f1) - 1))).f2) ((rd_T145 l1 (wrap64 (((rd_T141 l0 a2).f1) - 1))).f3.f0) ((rd_T145 l1 (wrap64 (((rd_T141 l0 a2).f1) - 1))).f3.f1) a2).bind fun bt377 => (if ((rd_T145 l1 (wrap64 (((rd_T141 l0 a2).f1) - 1))).f0) = ((rd_T141 l0 a2).f2) then (if ((rd_T145 l1 (wrap64 (((rd_T141 l0 a2).f1) - 1))).f1) = 2 then (some bt377.2.2.1) else (some bt377.2.1)) else (some bt377.2.1))) else (none)) else (none)) else (some 0)))) else (none)) else (none)) else (some 0)) = some r := H
 have A4 := Aside0.mk A40
 clear A40
 by_cases c5 : t371 = true
 ·subst c5
  have H1 : (if 0 ≤ a2 then (if a2 < (l0.length : Int) then (if ((rd_T141 l0 a2).f1) = 0 then (some ((rd_T141 l0 a2).f0)) else ((impl_from.f ((rd_T141 l0 a2).f1) 1 (l1.length : Int)).bind fun t374 => (if t374 = true then (if 0 ≤ (wrap64 (((rd_T141 l0 a2).f1) - 1)) then (if (wrap64 (((rd_T141 l0 a2).f1) - 1)) < (l1.length : Int) then ((impl_Entries.f k ((rd_T145 l1 (wrap64 (((rd_T141 l0 a2).f1) - 1))).f0) ((rd_T145 l1 (wrap64 (((rd_T141 l0 a2).f1) - 1))).f1) ((rd_T145 l1 (wrap64 (((rd_T141 l0 a2).f1) - 1))).f2) ((rd_T145 l1 (wrap64 (((rd_T141 l0 a2).f1) - 1))).f3.f0) ((rd_T145 l1 (wrap64 (((rd_T141 l0 a2).f1) - 1))).f3.f1) a2).bind fun bt377 => (if ((rd_T145 l1 (wrap64 (((rd_T141 l0 a2).f1) - 1))).f0) = ((rd_T141 l0 a2).f2) then (if ((rd_T145 l1 (wrap64 (((rd_T141 l0 a2).f1) - 1))).f1) = 2 then (some bt377.2.2.1) else (some bt377.2.1)) else (some bt377.2.1))) else (none)) else (none)) else (some 0)))) else (none)) else (none)) = some r := by rw [if_pos rfl] at H; exact H
  clear H
  have H := H1
  clear H1
  by_cases c6 : 0 ≤ a2
  ·rw [if_pos c6] at H
   have c6b0 := decide_eq_true c6
   clear c6
   by_cases c7 : a2 < (l0.length : Int)
   ·rw [if_pos c7] at H
    have c7b0 := decide_eq_true c7
    clear c7
    by_cases c8 : ((rd_T141 l0 a2).f1) = 0
    ·rw [if_pos c8] at H
     have c8b0 : (((rd_T141 l0 a2).f1) == 0) = true := beq_iff_eq.mpr c8
     have c8b1 : (((rd_T141 l0 a2).f1) != 0) = false := bne_eq_false_iff_eq.mpr c8
     clear c8
     obtain rfl := Option.some.inj H
     go_enter Try.func99, Try.ntmps99
     go_wp2_with (first | ((with_reducible refine gate_callee (f := 85) rfl ?_); refine gL 15 Try.func85 #[.int .i64 a2, .int .i64 0, .int .i64 (wrap64 ((l0.length : Int) - 1))] ?_; (with_reducible refine (impl_from.calls a2 0 (wrap64 ((l0.length : Int) - 1)) true _ A4.out).mono ?_); rintro e w' ⟨rfl, ⟨nd, rfl⟩⟩; refine ⟨_, rfl, ?_⟩; have p372 : 0 ≤ (a2 : Int) := od; have q372 : a2 < (l0.length : Int) := od; obtain ⟨ad372, e372, hx372_0, hx372_1, hx372_2⟩ := at_T141 HR0.out a2 p372 q372; cases e372; replace p372 := eq_true p372; replace q372 := eq_true q372) | ((with_reducible refine gate_dst (N := 7) rfl ?_); refine bx (N := 7) (cs := #[.int .i64 0, .int .i64 0, .int .i64 0]) (t := 141) ?_; intro gb373 hg w9 hbox hb; have BK373 := Aside0.mk (hbox); have GW373 := Aside0.mk (ge_ hg HB); have GE373 := Aside0.mk (ge_ hg HB); replace HB := bs HB hb; clear hb hbox hg; obtain ⟨hcz10_0, hcz10_1, hcz10_2, hfz10_0, hfz10_1, hfz10_2⟩ := cs3_ BK373))
     go_ret
     exact ⟨er, tb HB⟩
    ·rw [if_neg c8] at H
     have c8b0 : (((rd_T141 l0 a2).f1) == 0) = false := beq_eq_false_iff_ne.mpr c8
     have c8b1 : (((rd_T141 l0 a2).f1) != 0) = true := bne_iff_ne.mpr c8
     replace H := Option.bind_eq_some_iff.mp H
     obtain ⟨t374, A110, H⟩ := H
     replace H : (if t374 = true then (if 0 ≤ (wrap64 (((rd_T141 l0 a2).f1) - 1)) then (if (wrap64 (((rd_T141 l0 a2).f1) - 1)) < (l1.length : Int) then ((impl_Entries.f k ((rd_T145 l1 (wrap64 (((rd_T141 l0 a2).f1) - 1))).f0) ((rd_T145 l1 (wrap64 (((rd_T141 l0 a2).f1) - 1))).f1) ((rd_T145 l1 (wrap64 (((rd_T141 l0 a2).f1) - 1))).f2) ((rd_T145 l1 (wrap64 (((rd_T141 l0 a2).f1) - 1))).f3.f0) ((rd_T145 l1 (wrap64 (((rd_T141 l0 a2).f1) - 1))).f3.f1) a2).bind fun bt377 => (if ((rd_T145 l1 (wrap64 (((rd_T141 l0 a2).f1) - 1))).f0) = ((rd_T141 l0 a2).f2) then (if ((rd_T145 l1 (wrap64 (((rd_T141 l0 a2).f1) - 1))).f1) = 2 then (some bt377.2.2.1) else (some bt377.2.1)) else (some bt377.2.1))) else (none)) else (none)) else (some 0)) = some r := H
     have A11 := Aside0.mk A110
     clear A110
     by_cases c12 : t374 = true
     ·subst c12
      have H1 : (if 0 ≤ (wrap64 (((rd_T141 l0 a2).f1) - 1)) then (if (wrap64 (((rd_T141 l0 a2).f1) - 1)) < (l1.length : Int) then ((impl_Entries.f k ((rd_T145 l1 (wrap64 (((rd_T141 l0 a2).f1) - 1))).f0) ((rd_T145 l1 (wrap64 (((rd_T141 l0 a2).f1) - 1))).f1) ((rd_T145 l1 (wrap64 (((rd_T141 l0 a2).f1) - 1))).f2) ((rd_T145 l1 (wrap64 (((rd_T141 l0 a2).f1) - 1))).f3.f0) ((rd_T145 l1 (wrap64 (((rd_T141 l0 a2).f1) - 1))).f3.f1) a2).bind fun bt377 => (if ((rd_T145 l1 (wrap64 (((rd_T141 l0 a2).f1) - 1))).f0) = ((rd_T141 l0 a2).f2) then (if ((rd_T145 l1 (wrap64 (((rd_T141 l0 a2).f1) - 1))).f1) = 2 then (some bt377.2.2.1) else (some bt377.2.1)) else (some bt377.2.1))) else (none)) else (none)) = some r := by rw [if_pos rfl] at H; exact H
      clear H
      have H := H1
      clear H1
      obtain ⟨ji13, hji13⟩ : ∃ j_ : Int, (wrap64 (((rd_T141 l0 a2).f1) - 1)) = j_ := ⟨_, rfl⟩
      replace H : (if 0 ≤ (ji13) then (if (ji13) < (l1.length : Int) then ((impl_Entries.f k ((rd_T145 l1 (ji13)).f0) ((rd_T145 l1 (ji13)).f1) ((rd_T145 l1 (ji13)).f2) ((rd_T145 l1 (ji13)).f3.f0) ((rd_T145 l1 (ji13)).f3.f1) a2).bind fun bt377 => (if ((rd_T145 l1 (ji13)).f0) = ((rd_T141 l0 a2).f2) then (if ((rd_T145 l1 (ji13)).f1) = 2 then (some bt377.2.2.1) else (some bt377.2.1)) else (some bt377.2.1))) else (none)) else (none)) = some r := by first | (rw [hji13] at H; exact H) | (simp only [hji13] at H ⊢; exact H)
      (try rw [hji13] at A4)
      (try rw [hji13] at A11)
      have hji13w : (IntKind.i64.wrap (((rd_T141 l0 a2).f1) - 1)) = ji13 := (i64_w _).trans hji13
      by_cases c14 : 0 ≤ (ji13)
      ·rw [if_pos c14] at H
       have c14b0 := decide_eq_true c14
       clear c14
       by_cases c15 : (ji13) < (l1.length : Int)
       ·rw [if_pos c15] at H
        have c15b0 := decide_eq_true c15
        clear c15
        replace H := Option.bind_eq_some_iff.mp H
        obtain ⟨⟨t377, t378, t379, t380⟩, A160, H⟩ := H
        replace H : (if ((rd_T145 l1 (ji13)).f0) = ((rd_T141 l0 a2).f2) then (if ((rd_T145 l1 (ji13)).f1) = 2 then (some t379) else (some t378)) else (some t378)) = some r := H
        have A16 := Aside0.mk A160
        clear A160
        by_cases c17 : ((rd_T145 l1 (ji13)).f0) = ((rd_T141 l0 a2).f2)
        ·rw [if_pos c17] at H
         have c17b0 : (((rd_T145 l1 (ji13)).f0) == ((rd_T141 l0 a2).f2)) = true := beq_iff_eq.mpr c17
         have c17b1 : (((rd_T145 l1 (ji13)).f0) != ((rd_T141 l0 a2).f2)) = false := bne_eq_false_iff_eq.mpr c17
         clear c17
         by_cases c18 : ((rd_T145 l1 (ji13)).f1) = 2
         ·rw [if_pos c18] at H
          have c18b0 : (((rd_T145 l1 (ji13)).f1) == 2) = true := beq_iff_eq.mpr c18
          have c18b1 : (((rd_T145 l1 (ji13)).f1) != 2) = false := bne_eq_false_iff_eq.mpr c18
          clear c18
          obtain rfl := Option.some.inj H
          go_enter Try.func99, Try.ntmps99
          go_wp2_with (first | ((with_reducible refine gate_callee (f := 85) rfl ?_); refine gL 15 Try.func85 #[.int .i64 a2, .int .i64 0, .int .i64 (wrap64 ((l0.length : Int) - 1))] ?_; (with_reducible refine (impl_from.calls a2 0 (wrap64 ((l0.length : Int) - 1)) true _ A4.out).mono ?_); rintro e w' ⟨rfl, ⟨nd, rfl⟩⟩; refine ⟨_, rfl, ?_⟩; have p372 : 0 ≤ (a2 : Int) := od; have q372 : a2 < (l0.length : Int) := od; obtain ⟨ad372, e372, hx372_0, hx372_1, hx372_2⟩ := at_T141 HR0.out a2 p372 q372; cases e372; replace p372 := eq_true p372; replace q372 := eq_true q372) | ((with_reducible refine gate_dst (N := 7) rfl ?_); refine bx (N := 7) (cs := #[.int .i64 0, .int .i64 0, .int .i64 0]) (t := 141) ?_; intro gb373 hg w19 hbox hb; have BK373 := Aside0.mk (hbox); have GW373 := Aside0.mk (ge_ hg HB); have GE373 := Aside0.mk (ge_ hg HB); replace HB := bs HB hb; clear hb hbox hg; obtain ⟨hcz20_0, hcz20_1, hcz20_2, hfz20_0, hfz20_1, hfz20_2⟩ := cs3_ BK373) | ((with_reducible refine gate_callee (f := 85) rfl ?_); refine gL 30 Try.func85 #[.int .i64 ((rd_T141 l0 a2).f1), .int .i64 1, .int .i64 (l1.length : Int)] ?_; (with_reducible refine (impl_from.calls ((rd_T141 l0 a2).f1) 1 (l1.length : Int) true _ A11.out).mono ?_); rintro e w' ⟨rfl, ⟨nd, rfl⟩⟩; refine ⟨_, rfl, ?_⟩; have p375 : 0 ≤ ((ji13) : Int) := od; have q375 : (ji13) < (l1.length : Int) := od; obtain ⟨ad375, A375_2, c375_2, A375_4, c375_4, e375, hx375_0, hx375_1, hx375_2, hx375_3, hx375_4, hl375_2, hi375_2, hl375_4, hi375_4⟩ := at_T145 HR1.out (ji13) p375 q375; cases e375; have hn375_0 : ad375.block ≠ gb373 := Nat.ne_of_lt (Nat.lt_of_lt_of_le (by have := World.block_lt_of_cell? _ _ hx375_0; first | rwa [add_block] at this | exact this) GW373.out); have hn375_1 : ad375.block ≠ gb373 := Nat.ne_of_lt (Nat.lt_of_lt_of_le (by have := World.block_lt_of_cell? _ _ hx375_0; first | rwa [add_block] at this | exact this) GW373.out); have hn375_2 : ad375.block ≠ gb373 := Nat.ne_of_lt (Nat.lt_of_lt_of_le (by have := World.block_lt_of_cell? _ _ hx375_0; first | rwa [add_block] at this | exact this) GW373.out); replace hx375_0 := ox HB hx375_0; replace hx375_1 := ox HB hx375_1; replace hx375_2 := ox HB hx375_2; replace hx375_3 := ox HB hx375_3; replace hx375_4 := ox HB hx375_4; have HR375_2 := Aside0.mk hi375_2; have HC375_2 := Aside0.mk hl375_2; clear hi375_2 hl375_2; have HR375_4 := Aside0.mk hi375_4; have HC375_4 := Aside0.mk hl375_4; clear hi375_4 hl375_4; replace hx375_0 := (cell_far (p := ⟨gb373, 0, none⟩) (by first | (rw [add_block]; exact hn375_0) | (show (Addr.add _ _).block ≠ _; rw [add_block]; exact hn375_0) | exact hn375_0) (.int .i64 ((rd_T141 l0 a2).f0))).trans hx375_0; replace hx375_1 := (cell_far (p := ⟨gb373, 0, none⟩) (by first | (rw [add_block]; exact hn375_0) | (show (Addr.add _ _).block ≠ _; rw [add_block]; exact hn375_0) | exact hn375_0) (.int .i64 ((rd_T141 l0 a2).f0))).trans hx375_1; replace hx375_2 := (cell_far (p := ⟨gb373, 0, none⟩) (by first | (rw [add_block]; exact hn375_0) | (show (Addr.add _ _).block ≠ _; rw [add_block]; exact hn375_0) | exact hn375_0) (.int .i64 ((rd_T141 l0 a2).f0))).trans hx375_2; replace hx375_3 := (cell_far (p := ⟨gb373, 0, none⟩) (by first | (rw [add_block]; exact hn375_0) | (show (Addr.add _ _).block ≠ _; rw [add_block]; exact hn375_0) | exact hn375_0) (.int .i64 ((rd_T141 l0 a2).f0))).trans hx375_3; replace hx375_4 := (cell_far (p := ⟨gb373, 0, none⟩) (by first | (rw [add_block]; exact hn375_0) | (show (Addr.add _ _).block ≠ _; rw [add_block]; exact hn375_0) | exact hn375_0) (.int .i64 ((rd_T141 l0 a2).f0))).trans hx375_4; replace hx375_0 := (cell_far (p := ⟨gb373, 1, none⟩) (by first | (rw [add_block]; exact hn375_1) | (show (Addr.add _ _).block ≠ _; rw [add_block]; exact hn375_1) | exact hn375_1) (.int .i64 ((rd_T141 l0 a2).f1))).trans hx375_0; replace hx375_1 := (cell_far (p := ⟨gb373, 1, none⟩) (by first | (rw [add_block]; exact hn375_1) | (show (Addr.add _ _).block ≠ _; rw [add_block]; exact hn375_1) | exact hn375_1) (.int .i64 ((rd_T141 l0 a2).f1))).trans hx375_1; replace hx375_2 := (cell_far (p := ⟨gb373, 1, none⟩) (by first | (rw [add_block]; exact hn375_1) | (show (Addr.add _ _).block ≠ _; rw [add_block]; exact hn375_1) | exact hn375_1) (.int .i64 ((rd_T141 l0 a2).f1))).trans hx375_2; replace hx375_3 := (cell_far (p := ⟨gb373, 1, none⟩) (by first | (rw [add_block]; exact hn375_1) | (show (Addr.add _ _).block ≠ _; rw [add_block]; exact hn375_1) | exact hn375_1) (.int .i64 ((rd_T141 l0 a2).f1))).trans hx375_3; replace hx375_4 := (cell_far (p := ⟨gb373, 1, none⟩) (by first | (rw [add_block]; exact hn375_1) | (show (Addr.add _ _).block ≠ _; rw [add_block]; exact hn375_1) | exact hn375_1) (.int .i64 ((rd_T141 l0 a2).f1))).trans hx375_4; replace hx375_0 := (cell_far (p := ⟨gb373, 2, none⟩) (by first | (rw [add_block]; exact hn375_2) | (show (Addr.add _ _).block ≠ _; rw [add_block]; exact hn375_2) | exact hn375_2) (.int .i64 ((rd_T141 l0 a2).f2))).trans hx375_0; replace hx375_1 := (cell_far (p := ⟨gb373, 2, none⟩) (by first | (rw [add_block]; exact hn375_2) | (show (Addr.add _ _).block ≠ _; rw [add_block]; exact hn375_2) | exact hn375_2) (.int .i64 ((rd_T141 l0 a2).f2))).trans hx375_1; replace hx375_2 := (cell_far (p := ⟨gb373, 2, none⟩) (by first | (rw [add_block]; exact hn375_2) | (show (Addr.add _ _).block ≠ _; rw [add_block]; exact hn375_2) | exact hn375_2) (.int .i64 ((rd_T141 l0 a2).f2))).trans hx375_2; replace hx375_3 := (cell_far (p := ⟨gb373, 2, none⟩) (by first | (rw [add_block]; exact hn375_2) | (show (Addr.add _ _).block ≠ _; rw [add_block]; exact hn375_2) | exact hn375_2) (.int .i64 ((rd_T141 l0 a2).f2))).trans hx375_3; replace hx375_4 := (cell_far (p := ⟨gb373, 2, none⟩) (by first | (rw [add_block]; exact hn375_2) | (show (Addr.add _ _).block ≠ _; rw [add_block]; exact hn375_2) | exact hn375_2) (.int .i64 ((rd_T141 l0 a2).f2))).trans hx375_4; clear hn375_0; clear hn375_1; clear hn375_2; replace p375 := eq_true p375; replace q375 := eq_true q375) | ((with_reducible refine gate_dst (N := 8) rfl ?_); refine bx (N := 8) (cs := #[.int .i64 0, .int .i64 0, .slice none 0 0, .int .i64 0, .slice none 0 0]) (t := 145) ?_; intro gb376 hg w21 hbox hb; have BK376 := Aside0.mk (hbox); have GE376 := Aside0.mk (ge_ hg HB); replace HB := bs HB hb; have NB373_376 := Aside0.mk ((by rw [hg]; exact Nat.ne_of_lt (blk_lt (g := gb373) (o := .cells #[.int .i64 ((rd_T141 l0 a2).f0), .int .i64 ((rd_T141 l0 a2).f1), .int .i64 ((rd_T141 l0 a2).f2)] 141 (0, 0)) (by (with_reducible repeat (first | refine blk_drewN ?_ _ | refine blk_drew ?_ | refine blk_alloc ?_ _)); refine blk_put (cs := #[.int .i64 ((rd_T141 l0 a2).f0), .int .i64 ((rd_T141 l0 a2).f1), .int .i64 0]) ?_ 2 _ rfl; (with_reducible repeat (first | refine blk_drewN ?_ _ | refine blk_drew ?_ | refine blk_alloc ?_ _)); refine blk_put (cs := #[.int .i64 ((rd_T141 l0 a2).f0), .int .i64 0, .int .i64 0]) ?_ 1 _ rfl; (with_reducible repeat (first | refine blk_drewN ?_ _ | refine blk_drew ?_ | refine blk_alloc ?_ _)); refine blk_put (cs := #[.int .i64 0, .int .i64 0, .int .i64 0]) ?_ 0 _ rfl; (with_reducible repeat (first | refine blk_drewN ?_ _ | refine blk_drew ?_ | refine blk_alloc ?_ _)); exact BK373.out)) : gb373 ≠ gb376)); have NB376_373 := Aside0.mk ((by rw [hg]; exact Nat.ne_of_gt (blk_lt (g := gb373) (o := .cells #[.int .i64 ((rd_T141 l0 a2).f0), .int .i64 ((rd_T141 l0 a2).f1), .int .i64 ((rd_T141 l0 a2).f2)] 141 (0, 0)) (by (with_reducible repeat (first | refine blk_drewN ?_ _ | refine blk_drew ?_ | refine blk_alloc ?_ _)); refine blk_put (cs := #[.int .i64 ((rd_T141 l0 a2).f0), .int .i64 ((rd_T141 l0 a2).f1), .int .i64 0]) ?_ 2 _ rfl; (with_reducible repeat (first | refine blk_drewN ?_ _ | refine blk_drew ?_ | refine blk_alloc ?_ _)); refine blk_put (cs := #[.int .i64 ((rd_T141 l0 a2).f0), .int .i64 0, .int .i64 0]) ?_ 1 _ rfl; (with_reducible repeat (first | refine blk_drewN ?_ _ | refine blk_drew ?_ | refine blk_alloc ?_ _)); refine blk_put (cs := #[.int .i64 0, .int .i64 0, .int .i64 0]) ?_ 0 _ rfl; (with_reducible repeat (first | refine blk_drewN ?_ _ | refine blk_drew ?_ | refine blk_alloc ?_ _)); exact BK373.out)) : gb376 ≠ gb373)); replace BK373 := Aside0.mk (blk_below (g := gb373) (o := .cells #[.int .i64 ((rd_T141 l0 a2).f0), .int .i64 ((rd_T141 l0 a2).f1), .int .i64 ((rd_T141 l0 a2).f2)] 141 (0, 0)) (by (with_reducible repeat (first | refine blk_drewN ?_ _ | refine blk_drew ?_ | refine blk_alloc ?_ _)); refine blk_put (cs := #[.int .i64 ((rd_T141 l0 a2).f0), .int .i64 ((rd_T141 l0 a2).f1), .int .i64 0]) ?_ 2 _ rfl; (with_reducible repeat (first | refine blk_drewN ?_ _ | refine blk_drew ?_ | refine blk_alloc ?_ _)); refine blk_put (cs := #[.int .i64 ((rd_T141 l0 a2).f0), .int .i64 0, .int .i64 0]) ?_ 1 _ rfl; (with_reducible repeat (first | refine blk_drewN ?_ _ | refine blk_drew ?_ | refine blk_alloc ?_ _)); refine blk_put (cs := #[.int .i64 0, .int .i64 0, .int .i64 0]) ?_ 0 _ rfl; (with_reducible repeat (first | refine blk_drewN ?_ _ | refine blk_drew ?_ | refine blk_alloc ?_ _)); exact BK373.out) hb); clear hb hbox hg; have hnb22 := NB376_373.out; have hnc22 := NB373_376.out; obtain ⟨hcz23_0, hcz23_1, hcz23_2, hcz23_3, hcz23_4, hfz23_0, hfz23_1, hfz23_2, hfz23_3, hfz23_4⟩ := cs5_ BK376) | ((with_reducible refine gate_callee (f := 157) rfl ?_); refine goesL_ (some 41) rfl rfl Try.func157 (by kernel_rfl) rfl #[.agg #[.int .i64 ((rd_T145 l1 (ji13)).f0), .int .i64 ((rd_T145 l1 (ji13)).f1), .slice A375_2 ((rd_T145 l1 (ji13)).f2).length c375_2, .int .i64 ((rd_T145 l1 (ji13)).f3.f0), .slice A375_4 ((rd_T145 l1 (ji13)).f3.f1).length c375_4], .int .i64 a2] rfl (by (try simp only [List.map_toArray, List.map_cons, List.map_nil]); first | done | (simp only [hji13]; rfl) | rfl | (simp only [List.length_drop, List.length_take]; rfl)) ?_; (with_reducible refine (impl_Entries.calls k ((rd_T145 l1 (ji13)).f0) ((rd_T145 l1 (ji13)).f1) _ _ ((rd_T145 l1 (ji13)).f2) ((rd_T145 l1 (ji13)).f3.f0) _ _ ((rd_T145 l1 (ji13)).f3.f1) a2 t377 t378 t379 t380 _ ?side1 ?side2 ?side3 ?side4 A16.out).mono ?_); (case side1 => exact Kd.C_below HR375_2.out (tb HB)); (case side2 => exact HC375_2.out); (case side3 => exact Kd.C_below HR375_4.out (tb HB)); (case side4 => exact HC375_4.out); rintro e w24 ⟨rfl, hb⟩; refine ⟨_, rfl, ?_⟩; replace BK373 := Aside0.mk (blk_below (g := gb373) (o := .cells #[.int .i64 ((rd_T141 l0 a2).f0), .int .i64 ((rd_T141 l0 a2).f1), .int .i64 ((rd_T141 l0 a2).f2)] 141 (0, 0)) (bf BK373) hb); replace BK376 := Aside0.mk (blk_below (g := gb376) (o := .cells #[.int .i64 ((rd_T145 l1 (ji13)).f0), .int .i64 ((rd_T145 l1 (ji13)).f1), .slice A375_2 ((rd_T145 l1 (ji13)).f2).length c375_2, .int .i64 ((rd_T145 l1 (ji13)).f3.f0), .slice A375_4 ((rd_T145 l1 (ji13)).f3.f1).length c375_4] 145 (0, 0)) (by (with_reducible repeat (first | refine blk_drewN ?_ _ | refine blk_drew ?_ | refine blk_alloc ?_ _)); refine blk_put (cs := #[.int .i64 ((rd_T145 l1 (ji13)).f0), .int .i64 ((rd_T145 l1 (ji13)).f1), .slice A375_2 ((rd_T145 l1 (ji13)).f2).length c375_2, .int .i64 ((rd_T145 l1 (ji13)).f3.f0), .slice none 0 0]) ?_ 4 _ rfl; (with_reducible repeat (first | refine blk_drewN ?_ _ | refine blk_drew ?_ | refine blk_alloc ?_ _)); refine blk_put (cs := #[.int .i64 ((rd_T145 l1 (ji13)).f0), .int .i64 ((rd_T145 l1 (ji13)).f1), .slice A375_2 ((rd_T145 l1 (ji13)).f2).length c375_2, .int .i64 0, .slice none 0 0]) ?_ 3 _ rfl; (with_reducible repeat (first | refine blk_drewN ?_ _ | refine blk_drew ?_ | refine blk_alloc ?_ _)); refine blk_put (cs := #[.int .i64 ((rd_T145 l1 (ji13)).f0), .int .i64 ((rd_T145 l1 (ji13)).f1), .slice none 0 0, .int .i64 0, .slice none 0 0]) ?_ 2 _ rfl; (with_reducible repeat (first | refine blk_drewN ?_ _ | refine blk_drew ?_ | refine blk_alloc ?_ _)); refine blk_put (cs := #[.int .i64 ((rd_T145 l1 (ji13)).f0), .int .i64 0, .slice none 0 0, .int .i64 0, .slice none 0 0]) ?_ 1 _ rfl; (with_reducible repeat (first | refine blk_drewN ?_ _ | refine blk_drew ?_ | refine blk_alloc ?_ _)); refine blk_put (cs := #[.int .i64 0, .int .i64 0, .slice none 0 0, .int .i64 0, .slice none 0 0]) ?_ 0 _ rfl; (with_reducible repeat (first | refine blk_drewN ?_ _ | refine blk_drew ?_ | refine blk_alloc ?_ _)); exact BK376.out) hb); replace HB := bs HB hb; (try clear hb); (try clear hb2); (try clear hk); (try clear hi)) | ((with_reducible refine gate_dst (N := 9) rfl ?_); refine bx (N := 9) (cs := #[.int .i64 0, .int .i64 0, .int .i64 0]) (t := 166) ?_; intro gb381 hg w25 hbox hb; have BK381 := Aside0.mk (hbox); have GE381 := Aside0.mk (ge_ hg HB); replace HB := bs HB hb; have NB373_381 := Aside0.mk (nl_ hg BK373); have NB381_373 := Aside0.mk (ng_ hg BK373); replace BK373 := bb BK373 hb; have NB376_381 := Aside0.mk (nl_ hg BK376); have NB381_376 := Aside0.mk (ng_ hg BK376); replace BK376 := bb BK376 hb; clear hb hbox hg; have hnb26 := NB381_373.out; have hnc26 := NB373_381.out; have hnb27 := NB381_376.out; have hnc27 := NB376_381.out; obtain ⟨hcz28_0, hcz28_1, hcz28_2, hfz28_0, hfz28_1, hfz28_2⟩ := cs3_ BK381; obtain ⟨hcz29_0, hcz29_1, hcz29_2, hcz29_3, hcz29_4, hfz29_0, hfz29_1, hfz29_2, hfz29_3, hfz29_4⟩ := cs5_ BK376; obtain ⟨hcz30_0, hcz30_1, hcz30_2, hfz30_0, hfz30_1, hfz30_2⟩ := cs3_ BK373))
          go_ret
          exact ⟨by first | rfl | (simp [errW_none, errW_some] <;> rfl) | (simp only [← hji13]; first | rfl | (simp [errW_none, errW_some] <;> rfl)) | (simp [*, errW_none, errW_some] <;> rfl), tb HB⟩
         ·rw [if_neg c18] at H
          have c18b0 : (((rd_T145 l1 (ji13)).f1) == 2) = false := beq_eq_false_iff_ne.mpr c18
          have c18b1 : (((rd_T145 l1 (ji13)).f1) != 2) = true := bne_iff_ne.mpr c18
          obtain rfl := Option.some.inj H
          go_enter Try.func99, Try.ntmps99
          go_wp2_with (first | ((with_reducible refine gate_callee (f := 85) rfl ?_); refine gL 15 Try.func85 #[.int .i64 a2, .int .i64 0, .int .i64 (wrap64 ((l0.length : Int) - 1))] ?_; (with_reducible refine (impl_from.calls a2 0 (wrap64 ((l0.length : Int) - 1)) true _ A4.out).mono ?_); rintro e w' ⟨rfl, ⟨nd, rfl⟩⟩; refine ⟨_, rfl, ?_⟩; have p372 : 0 ≤ (a2 : Int) := od; have q372 : a2 < (l0.length : Int) := od; obtain ⟨ad372, e372, hx372_0, hx372_1, hx372_2⟩ := at_T141 HR0.out a2 p372 q372; cases e372; replace p372 := eq_true p372; replace q372 := eq_true q372) | ((with_reducible refine gate_dst (N := 7) rfl ?_); refine bx (N := 7) (cs := #[.int .i64 0, .int .i64 0, .int .i64 0]) (t := 141) ?_; intro gb373 hg w31 hbox hb; have BK373 := Aside0.mk (hbox); have GW373 := Aside0.mk (ge_ hg HB); have GE373 := Aside0.mk (ge_ hg HB); replace HB := bs HB hb; clear hb hbox hg; obtain ⟨hcz32_0, hcz32_1, hcz32_2, hfz32_0, hfz32_1, hfz32_2⟩ := cs3_ BK373) | ((with_reducible refine gate_callee (f := 85) rfl ?_); refine gL 30 Try.func85 #[.int .i64 ((rd_T141 l0 a2).f1), .int .i64 1, .int .i64 (l1.length : Int)] ?_; (with_reducible refine (impl_from.calls ((rd_T141 l0 a2).f1) 1 (l1.length : Int) true _ A11.out).mono ?_); rintro e w' ⟨rfl, ⟨nd, rfl⟩⟩; refine ⟨_, rfl, ?_⟩; have p375 : 0 ≤ ((ji13) : Int) := od; have q375 : (ji13) < (l1.length : Int) := od; obtain ⟨ad375, A375_2, c375_2, A375_4, c375_4, e375, hx375_0, hx375_1, hx375_2, hx375_3, hx375_4, hl375_2, hi375_2, hl375_4, hi375_4⟩ := at_T145 HR1.out (ji13) p375 q375; cases e375; have hn375_0 : ad375.block ≠ gb373 := Nat.ne_of_lt (Nat.lt_of_lt_of_le (by have := World.block_lt_of_cell? _ _ hx375_0; first | rwa [add_block] at this | exact this) GW373.out); have hn375_1 : ad375.block ≠ gb373 := Nat.ne_of_lt (Nat.lt_of_lt_of_le (by have := World.block_lt_of_cell? _ _ hx375_0; first | rwa [add_block] at this | exact this) GW373.out); have hn375_2 : ad375.block ≠ gb373 := Nat.ne_of_lt (Nat.lt_of_lt_of_le (by have := World.block_lt_of_cell? _ _ hx375_0; first | rwa [add_block] at this | exact this) GW373.out); replace hx375_0 := ox HB hx375_0; replace hx375_1 := ox HB hx375_1; replace hx375_2 := ox HB hx375_2; replace hx375_3 := ox HB hx375_3; replace hx375_4 := ox HB hx375_4; have HR375_2 := Aside0.mk hi375_2; have HC375_2 := Aside0.mk hl375_2; clear hi375_2 hl375_2; have HR375_4 := Aside0.mk hi375_4; have HC375_4 := Aside0.mk hl375_4; clear hi375_4 hl375_4; replace hx375_0 := (cell_far (p := ⟨gb373, 0, none⟩) (by first | (rw [add_block]; exact hn375_0) | (show (Addr.add _ _).block ≠ _; rw [add_block]; exact hn375_0) | exact hn375_0) (.int .i64 ((rd_T141 l0 a2).f0))).trans hx375_0; replace hx375_1 := (cell_far (p := ⟨gb373, 0, none⟩) (by first | (rw [add_block]; exact hn375_0) | (show (Addr.add _ _).block ≠ _; rw [add_block]; exact hn375_0) | exact hn375_0) (.int .i64 ((rd_T141 l0 a2).f0))).trans hx375_1; replace hx375_2 := (cell_far (p := ⟨gb373, 0, none⟩) (by first | (rw [add_block]; exact hn375_0) | (show (Addr.add _ _).block ≠ _; rw [add_block]; exact hn375_0) | exact hn375_0) (.int .i64 ((rd_T141 l0 a2).f0))).trans hx375_2; replace hx375_3 := (cell_far (p := ⟨gb373, 0, none⟩) (by first | (rw [add_block]; exact hn375_0) | (show (Addr.add _ _).block ≠ _; rw [add_block]; exact hn375_0) | exact hn375_0) (.int .i64 ((rd_T141 l0 a2).f0))).trans hx375_3; replace hx375_4 := (cell_far (p := ⟨gb373, 0, none⟩) (by first | (rw [add_block]; exact hn375_0) | (show (Addr.add _ _).block ≠ _; rw [add_block]; exact hn375_0) | exact hn375_0) (.int .i64 ((rd_T141 l0 a2).f0))).trans hx375_4; replace hx375_0 := (cell_far (p := ⟨gb373, 1, none⟩) (by first | (rw [add_block]; exact hn375_1) | (show (Addr.add _ _).block ≠ _; rw [add_block]; exact hn375_1) | exact hn375_1) (.int .i64 ((rd_T141 l0 a2).f1))).trans hx375_0; replace hx375_1 := (cell_far (p := ⟨gb373, 1, none⟩) (by first | (rw [add_block]; exact hn375_1) | (show (Addr.add _ _).block ≠ _; rw [add_block]; exact hn375_1) | exact hn375_1) (.int .i64 ((rd_T141 l0 a2).f1))).trans hx375_1; replace hx375_2 := (cell_far (p := ⟨gb373, 1, none⟩) (by first | (rw [add_block]; exact hn375_1) | (show (Addr.add _ _).block ≠ _; rw [add_block]; exact hn375_1) | exact hn375_1) (.int .i64 ((rd_T141 l0 a2).f1))).trans hx375_2; replace hx375_3 := (cell_far (p := ⟨gb373, 1, none⟩) (by first | (rw [add_block]; exact hn375_1) | (show (Addr.add _ _).block ≠ _; rw [add_block]; exact hn375_1) | exact hn375_1) (.int .i64 ((rd_T141 l0 a2).f1))).trans hx375_3; replace hx375_4 := (cell_far (p := ⟨gb373, 1, none⟩) (by first | (rw [add_block]; exact hn375_1) | (show (Addr.add _ _).block ≠ _; rw [add_block]; exact hn375_1) | exact hn375_1) (.int .i64 ((rd_T141 l0 a2).f1))).trans hx375_4; replace hx375_0 := (cell_far (p := ⟨gb373, 2, none⟩) (by first | (rw [add_block]; exact hn375_2) | (show (Addr.add _ _).block ≠ _; rw [add_block]; exact hn375_2) | exact hn375_2) (.int .i64 ((rd_T141 l0 a2).f2))).trans hx375_0; replace hx375_1 := (cell_far (p := ⟨gb373, 2, none⟩) (by first | (rw [add_block]; exact hn375_2) | (show (Addr.add _ _).block ≠ _; rw [add_block]; exact hn375_2) | exact hn375_2) (.int .i64 ((rd_T141 l0 a2).f2))).trans hx375_1; replace hx375_2 := (cell_far (p := ⟨gb373, 2, none⟩) (by first | (rw [add_block]; exact hn375_2) | (show (Addr.add _ _).block ≠ _; rw [add_block]; exact hn375_2) | exact hn375_2) (.int .i64 ((rd_T141 l0 a2).f2))).trans hx375_2; replace hx375_3 := (cell_far (p := ⟨gb373, 2, none⟩) (by first | (rw [add_block]; exact hn375_2) | (show (Addr.add _ _).block ≠ _; rw [add_block]; exact hn375_2) | exact hn375_2) (.int .i64 ((rd_T141 l0 a2).f2))).trans hx375_3; replace hx375_4 := (cell_far (p := ⟨gb373, 2, none⟩) (by first | (rw [add_block]; exact hn375_2) | (show (Addr.add _ _).block ≠ _; rw [add_block]; exact hn375_2) | exact hn375_2) (.int .i64 ((rd_T141 l0 a2).f2))).trans hx375_4; clear hn375_0; clear hn375_1; clear hn375_2; replace p375 := eq_true p375; replace q375 := eq_true q375) | ((with_reducible refine gate_dst (N := 8) rfl ?_); refine bx (N := 8) (cs := #[.int .i64 0, .int .i64 0, .slice none 0 0, .int .i64 0, .slice none 0 0]) (t := 145) ?_; intro gb376 hg w33 hbox hb; have BK376 := Aside0.mk (hbox); have GE376 := Aside0.mk (ge_ hg HB); replace HB := bs HB hb; have NB373_376 := Aside0.mk ((by rw [hg]; exact Nat.ne_of_lt (blk_lt (g := gb373) (o := .cells #[.int .i64 ((rd_T141 l0 a2).f0), .int .i64 ((rd_T141 l0 a2).f1), .int .i64 ((rd_T141 l0 a2).f2)] 141 (0, 0)) (by (with_reducible repeat (first | refine blk_drewN ?_ _ | refine blk_drew ?_ | refine blk_alloc ?_ _)); refine blk_put (cs := #[.int .i64 ((rd_T141 l0 a2).f0), .int .i64 ((rd_T141 l0 a2).f1), .int .i64 0]) ?_ 2 _ rfl; (with_reducible repeat (first | refine blk_drewN ?_ _ | refine blk_drew ?_ | refine blk_alloc ?_ _)); refine blk_put (cs := #[.int .i64 ((rd_T141 l0 a2).f0), .int .i64 0, .int .i64 0]) ?_ 1 _ rfl; (with_reducible repeat (first | refine blk_drewN ?_ _ | refine blk_drew ?_ | refine blk_alloc ?_ _)); refine blk_put (cs := #[.int .i64 0, .int .i64 0, .int .i64 0]) ?_ 0 _ rfl; (with_reducible repeat (first | refine blk_drewN ?_ _ | refine blk_drew ?_ | refine blk_alloc ?_ _)); exact BK373.out)) : gb373 ≠ gb376)); have NB376_373 := Aside0.mk ((by rw [hg]; exact Nat.ne_of_gt (blk_lt (g := gb373) (o := .cells #[.int .i64 ((rd_T141 l0 a2).f0), .int .i64 ((rd_T141 l0 a2).f1), .int .i64 ((rd_T141 l0 a2).f2)] 141 (0, 0)) (by (with_reducible repeat (first | refine blk_drewN ?_ _ | refine blk_drew ?_ | refine blk_alloc ?_ _)); refine blk_put (cs := #[.int .i64 ((rd_T141 l0 a2).f0), .int .i64 ((rd_T141 l0 a2).f1), .int .i64 0]) ?_ 2 _ rfl; (with_reducible repeat (first | refine blk_drewN ?_ _ | refine blk_drew ?_ | refine blk_alloc ?_ _)); refine blk_put (cs := #[.int .i64 ((rd_T141 l0 a2).f0), .int .i64 0, .int .i64 0]) ?_ 1 _ rfl; (with_reducible repeat (first | refine blk_drewN ?_ _ | refine blk_drew ?_ | refine blk_alloc ?_ _)); refine blk_put (cs := #[.int .i64 0, .int .i64 0, .int .i64 0]) ?_ 0 _ rfl; (with_reducible repeat (first | refine blk_drewN ?_ _ | refine blk_drew ?_ | refine blk_alloc ?_ _)); exact BK373.out)) : gb376 ≠ gb373)); replace BK373 := Aside0.mk (blk_below (g := gb373) (o := .cells #[.int .i64 ((rd_T141 l0 a2).f0), .int .i64 ((rd_T141 l0 a2).f1), .int .i64 ((rd_T141 l0 a2).f2)] 141 (0, 0)) (by (with_reducible repeat (first | refine blk_drewN ?_ _ | refine blk_drew ?_ | refine blk_alloc ?_ _)); refine blk_put (cs := #[.int .i64 ((rd_T141 l0 a2).f0), .int .i64 ((rd_T141 l0 a2).f1), .int .i64 0]) ?_ 2 _ rfl; (with_reducible repeat (first | refine blk_drewN ?_ _ | refine blk_drew ?_ | refine blk_alloc ?_ _)); refine blk_put (cs := #[.int .i64 ((rd_T141 l0 a2).f0), .int .i64 0, .int .i64 0]) ?_ 1 _ rfl; (with_reducible repeat (first | refine blk_drewN ?_ _ | refine blk_drew ?_ | refine blk_alloc ?_ _)); refine blk_put (cs := #[.int .i64 0, .int .i64 0, .int .i64 0]) ?_ 0 _ rfl; (with_reducible repeat (first | refine blk_drewN ?_ _ | refine blk_drew ?_ | refine blk_alloc ?_ _)); exact BK373.out) hb); clear hb hbox hg; have hnb34 := NB376_373.out; have hnc34 := NB373_376.out; obtain ⟨hcz35_0, hcz35_1, hcz35_2, hcz35_3, hcz35_4, hfz35_0, hfz35_1, hfz35_2, hfz35_3, hfz35_4⟩ := cs5_ BK376) | ((with_reducible refine gate_callee (f := 157) rfl ?_); refine goesL_ (some 41) rfl rfl Try.func157 (by kernel_rfl) rfl #[.agg #[.int .i64 ((rd_T145 l1 (ji13)).f0), .int .i64 ((rd_T145 l1 (ji13)).f1), .slice A375_2 ((rd_T145 l1 (ji13)).f2).length c375_2, .int .i64 ((rd_T145 l1 (ji13)).f3.f0), .slice A375_4 ((rd_T145 l1 (ji13)).f3.f1).length c375_4], .int .i64 a2] rfl (by (try simp only [List.map_toArray, List.map_cons, List.map_nil]); first | done | (simp only [hji13]; rfl) | rfl | (simp only [List.length_drop, List.length_take]; rfl)) ?_; (with_reducible refine (impl_Entries.calls k ((rd_T145 l1 (ji13)).f0) ((rd_T145 l1 (ji13)).f1) _ _ ((rd_T145 l1 (ji13)).f2) ((rd_T145 l1 (ji13)).f3.f0) _ _ ((rd_T145 l1 (ji13)).f3.f1) a2 t377 t378 t379 t380 _ ?side1 ?side2 ?side3 ?side4 A16.out).mono ?_); (case side1 => exact Kd.C_below HR375_2.out (tb HB)); (case side2 => exact HC375_2.out); (case side3 => exact Kd.C_below HR375_4.out (tb HB)); (case side4 => exact HC375_4.out); rintro e w36 ⟨rfl, hb⟩; refine ⟨_, rfl, ?_⟩; replace BK373 := Aside0.mk (blk_below (g := gb373) (o := .cells #[.int .i64 ((rd_T141 l0 a2).f0), .int .i64 ((rd_T141 l0 a2).f1), .int .i64 ((rd_T141 l0 a2).f2)] 141 (0, 0)) (bf BK373) hb); replace BK376 := Aside0.mk (blk_below (g := gb376) (o := .cells #[.int .i64 ((rd_T145 l1 (ji13)).f0), .int .i64 ((rd_T145 l1 (ji13)).f1), .slice A375_2 ((rd_T145 l1 (ji13)).f2).length c375_2, .int .i64 ((rd_T145 l1 (ji13)).f3.f0), .slice A375_4 ((rd_T145 l1 (ji13)).f3.f1).length c375_4] 145 (0, 0)) (by (with_reducible repeat (first | refine blk_drewN ?_ _ | refine blk_drew ?_ | refine blk_alloc ?_ _)); refine blk_put (cs := #[.int .i64 ((rd_T145 l1 (ji13)).f0), .int .i64 ((rd_T145 l1 (ji13)).f1), .slice A375_2 ((rd_T145 l1 (ji13)).f2).length c375_2, .int .i64 ((rd_T145 l1 (ji13)).f3.f0), .slice none 0 0]) ?_ 4 _ rfl; (with_reducible repeat (first | refine blk_drewN ?_ _ | refine blk_drew ?_ | refine blk_alloc ?_ _)); refine blk_put (cs := #[.int .i64 ((rd_T145 l1 (ji13)).f0), .int .i64 ((rd_T145 l1 (ji13)).f1), .slice A375_2 ((rd_T145 l1 (ji13)).f2).length c375_2, .int .i64 0, .slice none 0 0]) ?_ 3 _ rfl; (with_reducible repeat (first | refine blk_drewN ?_ _ | refine blk_drew ?_ | refine blk_alloc ?_ _)); refine blk_put (cs := #[.int .i64 ((rd_T145 l1 (ji13)).f0), .int .i64 ((rd_T145 l1 (ji13)).f1), .slice none 0 0, .int .i64 0, .slice none 0 0]) ?_ 2 _ rfl; (with_reducible repeat (first | refine blk_drewN ?_ _ | refine blk_drew ?_ | refine blk_alloc ?_ _)); refine blk_put (cs := #[.int .i64 ((rd_T145 l1 (ji13)).f0), .int .i64 0, .slice none 0 0, .int .i64 0, .slice none 0 0]) ?_ 1 _ rfl; (with_reducible repeat (first | refine blk_drewN ?_ _ | refine blk_drew ?_ | refine blk_alloc ?_ _)); refine blk_put (cs := #[.int .i64 0, .int .i64 0, .slice none 0 0, .int .i64 0, .slice none 0 0]) ?_ 0 _ rfl; (with_reducible repeat (first | refine blk_drewN ?_ _ | refine blk_drew ?_ | refine blk_alloc ?_ _)); exact BK376.out) hb); replace HB := bs HB hb; (try clear hb); (try clear hb2); (try clear hk); (try clear hi)) | ((with_reducible refine gate_dst (N := 9) rfl ?_); refine bx (N := 9) (cs := #[.int .i64 0, .int .i64 0, .int .i64 0]) (t := 166) ?_; intro gb381 hg w37 hbox hb; have BK381 := Aside0.mk (hbox); have GE381 := Aside0.mk (ge_ hg HB); replace HB := bs HB hb; have NB373_381 := Aside0.mk (nl_ hg BK373); have NB381_373 := Aside0.mk (ng_ hg BK373); replace BK373 := bb BK373 hb; have NB376_381 := Aside0.mk (nl_ hg BK376); have NB381_376 := Aside0.mk (ng_ hg BK376); replace BK376 := bb BK376 hb; clear hb hbox hg; have hnb38 := NB381_373.out; have hnc38 := NB373_381.out; have hnb39 := NB381_376.out; have hnc39 := NB376_381.out; obtain ⟨hcz40_0, hcz40_1, hcz40_2, hfz40_0, hfz40_1, hfz40_2⟩ := cs3_ BK381; obtain ⟨hcz41_0, hcz41_1, hcz41_2, hcz41_3, hcz41_4, hfz41_0, hfz41_1, hfz41_2, hfz41_3, hfz41_4⟩ := cs5_ BK376; obtain ⟨hcz42_0, hcz42_1, hcz42_2, hfz42_0, hfz42_1, hfz42_2⟩ := cs3_ BK373))
          go_ret
          exact ⟨by first | rfl | (simp [errW_none, errW_some] <;> rfl) | (simp only [← hji13]; first | rfl | (simp [errW_none, errW_some] <;> rfl)) | (simp [*, errW_none, errW_some] <;> rfl), tb HB⟩
        ·rw [if_neg c17] at H
         have c17b0 : (((rd_T145 l1 (ji13)).f0) == ((rd_T141 l0 a2).f2)) = false := beq_eq_false_iff_ne.mpr c17
         have c17b1 : (((rd_T145 l1 (ji13)).f0) != ((rd_T141 l0 a2).f2)) = true := bne_iff_ne.mpr c17
         obtain rfl := Option.some.inj H
         go_enter Try.func99, Try.ntmps99
         go_wp2_with (first | ((with_reducible refine gate_callee (f := 85) rfl ?_); refine gL 15 Try.func85 #[.int .i64 a2, .int .i64 0, .int .i64 (wrap64 ((l0.length : Int) - 1))] ?_; (with_reducible refine (impl_from.calls a2 0 (wrap64 ((l0.length : Int) - 1)) true _ A4.out).mono ?_); rintro e w' ⟨rfl, ⟨nd, rfl⟩⟩; refine ⟨_, rfl, ?_⟩; have p372 : 0 ≤ (a2 : Int) := od; have q372 : a2 < (l0.length : Int) := od; obtain ⟨ad372, e372, hx372_0, hx372_1, hx372_2⟩ := at_T141 HR0.out a2 p372 q372; cases e372; replace p372 := eq_true p372; replace q372 := eq_true q372) | ((with_reducible refine gate_dst (N := 7) rfl ?_); refine bx (N := 7) (cs := #[.int .i64 0, .int .i64 0, .int .i64 0]) (t := 141) ?_; intro gb373 hg w43 hbox hb; have BK373 := Aside0.mk (hbox); have GW373 := Aside0.mk (ge_ hg HB); have GE373 := Aside0.mk (ge_ hg HB); replace HB := bs HB hb; clear hb hbox hg; obtain ⟨hcz44_0, hcz44_1, hcz44_2, hfz44_0, hfz44_1, hfz44_2⟩ := cs3_ BK373) | ((with_reducible refine gate_callee (f := 85) rfl ?_); refine gL 30 Try.func85 #[.int .i64 ((rd_T141 l0 a2).f1), .int .i64 1, .int .i64 (l1.length : Int)] ?_; (with_reducible refine (impl_from.calls ((rd_T141 l0 a2).f1) 1 (l1.length : Int) true _ A11.out).mono ?_); rintro e w' ⟨rfl, ⟨nd, rfl⟩⟩; refine ⟨_, rfl, ?_⟩; have p375 : 0 ≤ ((ji13) : Int) := od; have q375 : (ji13) < (l1.length : Int) := od; obtain ⟨ad375, A375_2, c375_2, A375_4, c375_4, e375, hx375_0, hx375_1, hx375_2, hx375_3, hx375_4, hl375_2, hi375_2, hl375_4, hi375_4⟩ := at_T145 HR1.out (ji13) p375 q375; cases e375; have hn375_0 : ad375.block ≠ gb373 := Nat.ne_of_lt (Nat.lt_of_lt_of_le (by have := World.block_lt_of_cell? _ _ hx375_0; first | rwa [add_block] at this | exact this) GW373.out); have hn375_1 : ad375.block ≠ gb373 := Nat.ne_of_lt (Nat.lt_of_lt_of_le (by have := World.block_lt_of_cell? _ _ hx375_0; first | rwa [add_block] at this | exact this) GW373.out); have hn375_2 : ad375.block ≠ gb373 := Nat.ne_of_lt (Nat.lt_of_lt_of_le (by have := World.block_lt_of_cell? _ _ hx375_0; first | rwa [add_block] at this | exact this) GW373.out); replace hx375_0 := ox HB hx375_0; replace hx375_1 := ox HB hx375_1; replace hx375_2 := ox HB hx375_2; replace hx375_3 := ox HB hx375_3; replace hx375_4 := ox HB hx375_4; have HR375_2 := Aside0.mk hi375_2; have HC375_2 := Aside0.mk hl375_2; clear hi375_2 hl375_2; have HR375_4 := Aside0.mk hi375_4; have HC375_4 := Aside0.mk hl375_4; clear hi375_4 hl375_4; replace hx375_0 := (cell_far (p := ⟨gb373, 0, none⟩) (by first | (rw [add_block]; exact hn375_0) | (show (Addr.add _ _).block ≠ _; rw [add_block]; exact hn375_0) | exact hn375_0) (.int .i64 ((rd_T141 l0 a2).f0))).trans hx375_0; replace hx375_1 := (cell_far (p := ⟨gb373, 0, none⟩) (by first | (rw [add_block]; exact hn375_0) | (show (Addr.add _ _).block ≠ _; rw [add_block]; exact hn375_0) | exact hn375_0) (.int .i64 ((rd_T141 l0 a2).f0))).trans hx375_1; replace hx375_2 := (cell_far (p := ⟨gb373, 0, none⟩) (by first | (rw [add_block]; exact hn375_0) | (show (Addr.add _ _).block ≠ _; rw [add_block]; exact hn375_0) | exact hn375_0) (.int .i64 ((rd_T141 l0 a2).f0))).trans hx375_2; replace hx375_3 := (cell_far (p := ⟨gb373, 0, none⟩) (by first | (rw [add_block]; exact hn375_0) | (show (Addr.add _ _).block ≠ _; rw [add_block]; exact hn375_0) | exact hn375_0) (.int .i64 ((rd_T141 l0 a2).f0))).trans hx375_3; replace hx375_4 := (cell_far (p := ⟨gb373, 0, none⟩) (by first | (rw [add_block]; exact hn375_0) | (show (Addr.add _ _).block ≠ _; rw [add_block]; exact hn375_0) | exact hn375_0) (.int .i64 ((rd_T141 l0 a2).f0))).trans hx375_4; replace hx375_0 := (cell_far (p := ⟨gb373, 1, none⟩) (by first | (rw [add_block]; exact hn375_1) | (show (Addr.add _ _).block ≠ _; rw [add_block]; exact hn375_1) | exact hn375_1) (.int .i64 ((rd_T141 l0 a2).f1))).trans hx375_0; replace hx375_1 := (cell_far (p := ⟨gb373, 1, none⟩) (by first | (rw [add_block]; exact hn375_1) | (show (Addr.add _ _).block ≠ _; rw [add_block]; exact hn375_1) | exact hn375_1) (.int .i64 ((rd_T141 l0 a2).f1))).trans hx375_1; replace hx375_2 := (cell_far (p := ⟨gb373, 1, none⟩) (by first | (rw [add_block]; exact hn375_1) | (show (Addr.add _ _).block ≠ _; rw [add_block]; exact hn375_1) | exact hn375_1) (.int .i64 ((rd_T141 l0 a2).f1))).trans hx375_2; replace hx375_3 := (cell_far (p := ⟨gb373, 1, none⟩) (by first | (rw [add_block]; exact hn375_1) | (show (Addr.add _ _).block ≠ _; rw [add_block]; exact hn375_1) | exact hn375_1) (.int .i64 ((rd_T141 l0 a2).f1))).trans hx375_3; replace hx375_4 := (cell_far (p := ⟨gb373, 1, none⟩) (by first | (rw [add_block]; exact hn375_1) | (show (Addr.add _ _).block ≠ _; rw [add_block]; exact hn375_1) | exact hn375_1) (.int .i64 ((rd_T141 l0 a2).f1))).trans hx375_4; replace hx375_0 := (cell_far (p := ⟨gb373, 2, none⟩) (by first | (rw [add_block]; exact hn375_2) | (show (Addr.add _ _).block ≠ _; rw [add_block]; exact hn375_2) | exact hn375_2) (.int .i64 ((rd_T141 l0 a2).f2))).trans hx375_0; replace hx375_1 := (cell_far (p := ⟨gb373, 2, none⟩) (by first | (rw [add_block]; exact hn375_2) | (show (Addr.add _ _).block ≠ _; rw [add_block]; exact hn375_2) | exact hn375_2) (.int .i64 ((rd_T141 l0 a2).f2))).trans hx375_1; replace hx375_2 := (cell_far (p := ⟨gb373, 2, none⟩) (by first | (rw [add_block]; exact hn375_2) | (show (Addr.add _ _).block ≠ _; rw [add_block]; exact hn375_2) | exact hn375_2) (.int .i64 ((rd_T141 l0 a2).f2))).trans hx375_2; replace hx375_3 := (cell_far (p := ⟨gb373, 2, none⟩) (by first | (rw [add_block]; exact hn375_2) | (show (Addr.add _ _).block ≠ _; rw [add_block]; exact hn375_2) | exact hn375_2) (.int .i64 ((rd_T141 l0 a2).f2))).trans hx375_3; replace hx375_4 := (cell_far (p := ⟨gb373, 2, none⟩) (by first | (rw [add_block]; exact hn375_2) | (show (Addr.add _ _).block ≠ _; rw [add_block]; exact hn375_2) | exact hn375_2) (.int .i64 ((rd_T141 l0 a2).f2))).trans hx375_4; clear hn375_0; clear hn375_1; clear hn375_2; replace p375 := eq_true p375; replace q375 := eq_true q375) | ((with_reducible refine gate_dst (N := 8) rfl ?_); refine bx (N := 8) (cs := #[.int .i64 0, .int .i64 0, .slice none 0 0, .int .i64 0, .slice none 0 0]) (t := 145) ?_; intro gb376 hg w45 hbox hb; have BK376 := Aside0.mk (hbox); have GE376 := Aside0.mk (ge_ hg HB); replace HB := bs HB hb; have NB373_376 := Aside0.mk ((by rw [hg]; exact Nat.ne_of_lt (blk_lt (g := gb373) (o := .cells #[.int .i64 ((rd_T141 l0 a2).f0), .int .i64 ((rd_T141 l0 a2).f1), .int .i64 ((rd_T141 l0 a2).f2)] 141 (0, 0)) (by (with_reducible repeat (first | refine blk_drewN ?_ _ | refine blk_drew ?_ | refine blk_alloc ?_ _)); refine blk_put (cs := #[.int .i64 ((rd_T141 l0 a2).f0), .int .i64 ((rd_T141 l0 a2).f1), .int .i64 0]) ?_ 2 _ rfl; (with_reducible repeat (first | refine blk_drewN ?_ _ | refine blk_drew ?_ | refine blk_alloc ?_ _)); refine blk_put (cs := #[.int .i64 ((rd_T141 l0 a2).f0), .int .i64 0, .int .i64 0]) ?_ 1 _ rfl; (with_reducible repeat (first | refine blk_drewN ?_ _ | refine blk_drew ?_ | refine blk_alloc ?_ _)); refine blk_put (cs := #[.int .i64 0, .int .i64 0, .int .i64 0]) ?_ 0 _ rfl; (with_reducible repeat (first | refine blk_drewN ?_ _ | refine blk_drew ?_ | refine blk_alloc ?_ _)); exact BK373.out)) : gb373 ≠ gb376)); have NB376_373 := Aside0.mk ((by rw [hg]; exact Nat.ne_of_gt (blk_lt (g := gb373) (o := .cells #[.int .i64 ((rd_T141 l0 a2).f0), .int .i64 ((rd_T141 l0 a2).f1), .int .i64 ((rd_T141 l0 a2).f2)] 141 (0, 0)) (by (with_reducible repeat (first | refine blk_drewN ?_ _ | refine blk_drew ?_ | refine blk_alloc ?_ _)); refine blk_put (cs := #[.int .i64 ((rd_T141 l0 a2).f0), .int .i64 ((rd_T141 l0 a2).f1), .int .i64 0]) ?_ 2 _ rfl; (with_reducible repeat (first | refine blk_drewN ?_ _ | refine blk_drew ?_ | refine blk_alloc ?_ _)); refine blk_put (cs := #[.int .i64 ((rd_T141 l0 a2).f0), .int .i64 0, .int .i64 0]) ?_ 1 _ rfl; (with_reducible repeat (first | refine blk_drewN ?_ _ | refine blk_drew ?_ | refine blk_alloc ?_ _)); refine blk_put (cs := #[.int .i64 0, .int .i64 0, .int .i64 0]) ?_ 0 _ rfl; (with_reducible repeat (first | refine blk_drewN ?_ _ | refine blk_drew ?_ | refine blk_alloc ?_ _)); exact BK373.out)) : gb376 ≠ gb373)); replace BK373 := Aside0.mk (blk_below (g := gb373) (o := .cells #[.int .i64 ((rd_T141 l0 a2).f0), .int .i64 ((rd_T141 l0 a2).f1), .int .i64 ((rd_T141 l0 a2).f2)] 141 (0, 0)) (by (with_reducible repeat (first | refine blk_drewN ?_ _ | refine blk_drew ?_ | refine blk_alloc ?_ _)); refine blk_put (cs := #[.int .i64 ((rd_T141 l0 a2).f0), .int .i64 ((rd_T141 l0 a2).f1), .int .i64 0]) ?_ 2 _ rfl; (with_reducible repeat (first | refine blk_drewN ?_ _ | refine blk_drew ?_ | refine blk_alloc ?_ _)); refine blk_put (cs := #[.int .i64 ((rd_T141 l0 a2).f0), .int .i64 0, .int .i64 0]) ?_ 1 _ rfl; (with_reducible repeat (first | refine blk_drewN ?_ _ | refine blk_drew ?_ | refine blk_alloc ?_ _)); refine blk_put (cs := #[.int .i64 0, .int .i64 0, .int .i64 0]) ?_ 0 _ rfl; (with_reducible repeat (first | refine blk_drewN ?_ _ | refine blk_drew ?_ | refine blk_alloc ?_ _)); exact BK373.out) hb); clear hb hbox hg; have hnb46 := NB376_373.out; have hnc46 := NB373_376.out; obtain ⟨hcz47_0, hcz47_1, hcz47_2, hcz47_3, hcz47_4, hfz47_0, hfz47_1, hfz47_2, hfz47_3, hfz47_4⟩ := cs5_ BK376) | ((with_reducible refine gate_callee (f := 157) rfl ?_); refine goesL_ (some 41) rfl rfl Try.func157 (by kernel_rfl) rfl #[.agg #[.int .i64 ((rd_T145 l1 (ji13)).f0), .int .i64 ((rd_T145 l1 (ji13)).f1), .slice A375_2 ((rd_T145 l1 (ji13)).f2).length c375_2, .int .i64 ((rd_T145 l1 (ji13)).f3.f0), .slice A375_4 ((rd_T145 l1 (ji13)).f3.f1).length c375_4], .int .i64 a2] rfl (by (try simp only [List.map_toArray, List.map_cons, List.map_nil]); first | done | (simp only [hji13]; rfl) | rfl | (simp only [List.length_drop, List.length_take]; rfl)) ?_; (with_reducible refine (impl_Entries.calls k ((rd_T145 l1 (ji13)).f0) ((rd_T145 l1 (ji13)).f1) _ _ ((rd_T145 l1 (ji13)).f2) ((rd_T145 l1 (ji13)).f3.f0) _ _ ((rd_T145 l1 (ji13)).f3.f1) a2 t377 t378 t379 t380 _ ?side1 ?side2 ?side3 ?side4 A16.out).mono ?_); (case side1 => exact Kd.C_below HR375_2.out (tb HB)); (case side2 => exact HC375_2.out); (case side3 => exact Kd.C_below HR375_4.out (tb HB)); (case side4 => exact HC375_4.out); rintro e w48 ⟨rfl, hb⟩; refine ⟨_, rfl, ?_⟩; replace BK373 := Aside0.mk (blk_below (g := gb373) (o := .cells #[.int .i64 ((rd_T141 l0 a2).f0), .int .i64 ((rd_T141 l0 a2).f1), .int .i64 ((rd_T141 l0 a2).f2)] 141 (0, 0)) (bf BK373) hb); replace BK376 := Aside0.mk (blk_below (g := gb376) (o := .cells #[.int .i64 ((rd_T145 l1 (ji13)).f0), .int .i64 ((rd_T145 l1 (ji13)).f1), .slice A375_2 ((rd_T145 l1 (ji13)).f2).length c375_2, .int .i64 ((rd_T145 l1 (ji13)).f3.f0), .slice A375_4 ((rd_T145 l1 (ji13)).f3.f1).length c375_4] 145 (0, 0)) (by (with_reducible repeat (first | refine blk_drewN ?_ _ | refine blk_drew ?_ | refine blk_alloc ?_ _)); refine blk_put (cs := #[.int .i64 ((rd_T145 l1 (ji13)).f0), .int .i64 ((rd_T145 l1 (ji13)).f1), .slice A375_2 ((rd_T145 l1 (ji13)).f2).length c375_2, .int .i64 ((rd_T145 l1 (ji13)).f3.f0), .slice none 0 0]) ?_ 4 _ rfl; (with_reducible repeat (first | refine blk_drewN ?_ _ | refine blk_drew ?_ | refine blk_alloc ?_ _)); refine blk_put (cs := #[.int .i64 ((rd_T145 l1 (ji13)).f0), .int .i64 ((rd_T145 l1 (ji13)).f1), .slice A375_2 ((rd_T145 l1 (ji13)).f2).length c375_2, .int .i64 0, .slice none 0 0]) ?_ 3 _ rfl; (with_reducible repeat (first | refine blk_drewN ?_ _ | refine blk_drew ?_ | refine blk_alloc ?_ _)); refine blk_put (cs := #[.int .i64 ((rd_T145 l1 (ji13)).f0), .int .i64 ((rd_T145 l1 (ji13)).f1), .slice none 0 0, .int .i64 0, .slice none 0 0]) ?_ 2 _ rfl; (with_reducible repeat (first | refine blk_drewN ?_ _ | refine blk_drew ?_ | refine blk_alloc ?_ _)); refine blk_put (cs := #[.int .i64 ((rd_T145 l1 (ji13)).f0), .int .i64 0, .slice none 0 0, .int .i64 0, .slice none 0 0]) ?_ 1 _ rfl; (with_reducible repeat (first | refine blk_drewN ?_ _ | refine blk_drew ?_ | refine blk_alloc ?_ _)); refine blk_put (cs := #[.int .i64 0, .int .i64 0, .slice none 0 0, .int .i64 0, .slice none 0 0]) ?_ 0 _ rfl; (with_reducible repeat (first | refine blk_drewN ?_ _ | refine blk_drew ?_ | refine blk_alloc ?_ _)); exact BK376.out) hb); replace HB := bs HB hb; (try clear hb); (try clear hb2); (try clear hk); (try clear hi)) | ((with_reducible refine gate_dst (N := 9) rfl ?_); refine bx (N := 9) (cs := #[.int .i64 0, .int .i64 0, .int .i64 0]) (t := 166) ?_; intro gb381 hg w49 hbox hb; have BK381 := Aside0.mk (hbox); have GE381 := Aside0.mk (ge_ hg HB); replace HB := bs HB hb; have NB373_381 := Aside0.mk (nl_ hg BK373); have NB381_373 := Aside0.mk (ng_ hg BK373); replace BK373 := bb BK373 hb; have NB376_381 := Aside0.mk (nl_ hg BK376); have NB381_376 := Aside0.mk (ng_ hg BK376); replace BK376 := bb BK376 hb; clear hb hbox hg; have hnb50 := NB381_373.out; have hnc50 := NB373_381.out; have hnb51 := NB381_376.out; have hnc51 := NB376_381.out; obtain ⟨hcz52_0, hcz52_1, hcz52_2, hfz52_0, hfz52_1, hfz52_2⟩ := cs3_ BK381; obtain ⟨hcz53_0, hcz53_1, hcz53_2, hcz53_3, hcz53_4, hfz53_0, hfz53_1, hfz53_2, hfz53_3, hfz53_4⟩ := cs5_ BK376; obtain ⟨hcz54_0, hcz54_1, hcz54_2, hfz54_0, hfz54_1, hfz54_2⟩ := cs3_ BK373))
         go_ret
         exact ⟨by first | rfl | (simp [errW_none, errW_some] <;> rfl) | (simp only [← hji13]; first | rfl | (simp [errW_none, errW_some] <;> rfl)) | (simp [*, errW_none, errW_some] <;> rfl), tb HB⟩
       ·rw [if_neg c15] at H
        exact absurd H (by simp)
      ·rw [if_neg c14] at H
       exact absurd H (by simp)
     ·replace c12 := Bool.eq_false_iff.mpr c12
      subst c12
      have H1 : (some 0) = some r := by rw [if_neg (show ¬ (false = true) by decide)] at H; exact H
      clear H
      have H := H1
      clear H1
      obtain rfl := Option.some.inj H
      go_enter Try.func99, Try.ntmps99
      go_wp2_with (first | ((with_reducible refine gate_callee (f := 85) rfl ?_); refine gL 15 Try.func85 #[.int .i64 a2, .int .i64 0, .int .i64 (wrap64 ((l0.length : Int) - 1))] ?_; (with_reducible refine (impl_from.calls a2 0 (wrap64 ((l0.length : Int) - 1)) true _ A4.out).mono ?_); rintro e w' ⟨rfl, ⟨nd, rfl⟩⟩; refine ⟨_, rfl, ?_⟩; have p372 : 0 ≤ (a2 : Int) := od; have q372 : a2 < (l0.length : Int) := od; obtain ⟨ad372, e372, hx372_0, hx372_1, hx372_2⟩ := at_T141 HR0.out a2 p372 q372; cases e372; replace p372 := eq_true p372; replace q372 := eq_true q372) | ((with_reducible refine gate_dst (N := 7) rfl ?_); refine bx (N := 7) (cs := #[.int .i64 0, .int .i64 0, .int .i64 0]) (t := 141) ?_; intro gb373 hg w55 hbox hb; have BK373 := Aside0.mk (hbox); have GW373 := Aside0.mk (ge_ hg HB); have GE373 := Aside0.mk (ge_ hg HB); replace HB := bs HB hb; clear hb hbox hg; obtain ⟨hcz56_0, hcz56_1, hcz56_2, hfz56_0, hfz56_1, hfz56_2⟩ := cs3_ BK373) | ((with_reducible refine gate_callee (f := 85) rfl ?_); refine gL 30 Try.func85 #[.int .i64 ((rd_T141 l0 a2).f1), .int .i64 1, .int .i64 (l1.length : Int)] ?_; (with_reducible refine (impl_from.calls ((rd_T141 l0 a2).f1) 1 (l1.length : Int) false _ A11.out).mono ?_); rintro e w' ⟨rfl, ⟨nd, rfl⟩⟩; refine ⟨_, rfl, ?_⟩))
      go_ret
      exact ⟨er, tb HB⟩
   ·rw [if_neg c7] at H
    exact absurd H (by simp)
  ·rw [if_neg c6] at H
   exact absurd H (by simp)
 ·replace c5 := Bool.eq_false_iff.mpr c5
  subst c5
  have H1 : (some 0) = some r := by rw [if_neg (show ¬ (false = true) by decide)] at H; exact H
  clear H
  have H := H1
  clear H1
  obtain rfl := Option.some.inj H
  go_enter Try.func99, Try.ntmps99
  go_wp2_with (first | ((with_reducible refine gate_callee (f := 85) rfl ?_); refine gL 15 Try.func85 #[.int .i64 a2, .int .i64 0, .int .i64 (wrap64 ((l0.length : Int) - 1))] ?_; (with_reducible refine (impl_from.calls a2 0 (wrap64 ((l0.length : Int) - 1)) false _ A4.out).mono ?_); rintro e w' ⟨rfl, ⟨nd, rfl⟩⟩; refine ⟨_, rfl, ?_⟩))
  go_ret
  exact ⟨er, tb HB⟩
def impl_Meaning.l0 : Nat → List (S141) → List (S145) → List Int → Int → Int → Option (List Int)
 | 0, _, _, _, _, _ => none
 | k + 1, x0, x1, x5, x9, x10 => if x10 < x9 then ((impl_ValueAt.f k x0 x1 x10).bind fun t385 => (if x5.length < 17592186044416 then (impl_Meaning.l0 k x0 x1 (x5 ++ [t385]) x9 (wrap64 (x10 + 1))) else (none))) else (some x5)
def impl_Meaning.f (k : Nat) (l0 : List (S141)) (l1 : List (S145)) : Option (List Int) := impl_Meaning.l0 k l0 l1 (([] : List Int)) (l0.length : Int) 0
theorem impl_Meaning.mono_l : ∀ k, (∀ y0 y1 y2 y3 y4, LeO (impl_Meaning.l0 k y0 y1 y2 y3 y4) (impl_Meaning.l0 (k + 1) y0 y1 y2 y3 y4))
 | 0 => fun _ _ _ _ _ r h => by simp [impl_Meaning.l0] at h
 | k + 1 => by
  have ih0 := impl_Meaning.mono_l k
  ·intro y0 y1 y2 y3 y4
   unfold impl_Meaning.l0
   repeat' first
   | (with_reducible exact ih0 _ _ _ _ _)
   | (with_reducible exact impl_ValueAt.mono _ _ _ _)
   | (with_reducible exact LeO.refl _)
   | (with_reducible exact LeO.none _)
   | (with_reducible refine LeO.ite ?_ ?_)
   | (with_reducible refine LeO.bind ?_ (fun _ => ?_))
   | exact ih0 _ _ _ _ _
   | exact impl_ValueAt.mono _ _ _ _
   | exact LeO.none _
   | refine LeO.ite ?_ ?_
   | refine LeO.bind ?_ (fun _ => ?_)
theorem impl_Meaning.mono : ∀ a0 a1 k, LeO (impl_Meaning.f k a0 a1) (impl_Meaning.f (k + 1) a0 a1) := by
 intro a0 a1 k
 have ih0 := impl_Meaning.mono_l k
 unfold impl_Meaning.f
 repeat' first
   | (with_reducible exact ih0 _ _ _ _ _)
   | (with_reducible exact impl_ValueAt.mono _ _ _ _)
   | (with_reducible exact LeO.refl _)
   | (with_reducible exact LeO.none _)
   | (with_reducible refine LeO.ite ?_ ?_)
   | (with_reducible refine LeO.bind ?_ (fun _ => ?_))
   | exact ih0 _ _ _ _ _
   | exact impl_ValueAt.mono _ _ _ _
   | exact LeO.none _
   | refine LeO.ite ?_ ?_
   | refine LeO.bind ?_ (fun _ => ?_)
set_option maxHeartbeats 8000000 in
set_option maxRecDepth 100000 in
theorem impl_Meaning.calls (k : Nat) (A0 : Option Addr) (c0 : Nat) (l0 : List (S141)) (A1 : Option Addr) (c1 : Nat) (l1 : List (S145)) (r : List Int) (w : World) (hr0 : Kd.C k141 w A0 l0.length l0) (hc0 : l0.length ≤ c0) (hr1 : Kd.C k145 w A1 l1.length l1) (hc1 : l1.length ≤ c1) (h : impl_Meaning.f k l0 l1 = some r) :
  Calls Try.prog 25 #[.slice A0 l0.length c0, .slice A1 l1.length c1] w fun e w' => ∃ v0_ : Value, e = .returned (v0_) ∧ Kd.R (Kd.int .i64) 3 w' w.heap.size (fun _ => True) v0_ r ∧ Below w.heap.size w w' := by
 have HR0 := Aside0.mk hr0
 have HC0 := Aside0.mk hc0
 clear hr0 hc0
 have HR1 := Aside0.mk hr1
 have HC1 := Aside0.mk hc1
 clear hr1 hc1
 have HB := Aside0.mk (Below.refl w.heap.size w)
 have H : (impl_Meaning.l0 k l0 l1 (([] : List Int)) (l0.length : Int) 0) = some r := h
 clear h
 obtain ⟨y382, hy382⟩ : ∃ y_ : List Int, y_ = (([] : List Int)) := ⟨_, rfl⟩
 replace H : (impl_Meaning.l0 k l0 l1 y382 (l0.length : Int) 0) = some r := by first | (rw [hy382]; with_reducible exact H) | (have H2_ := (Option.bind_some _ _).symm.trans H; rw [hy382]; with_reducible exact H2_) | (have H2_ := (Option.bind_some _ _).symm.trans H; with_reducible exact H2_) | with_reducible exact H | (rw [hy382]; exact H) | exact H
 have Ny382 := Aside0.mk hy382
 clear hy382
 have H' := Aside0.mk H
 clear H
 go_enter Try.func25, Try.ntmps25
 go_wp2_with (first | ((with_reducible refine gate_dst (N := 7) rfl ?_); refine Kd.R_lit (Kd.int .i64) _ 3 ?hg (N := 7) ?hd (xs := ([] : List Int)) (inner := []) (ok := fun _ => True) (okp := fun _ => True) ?hr ?hp (fun _ hk => hk) trivial (Below.refl _ _) (Nat.le_refl _) (by simp) ?_; (case hd => rfl); (case hg => rfl); (case hr => first | (go_simp; done) | (go_simp; rfl)); (case hp => exact (Reps.none _ _)); intro v383 w3 ho4 hb hg_ hnew_; clear hg_ hnew_; (first | rw [← Ny382.out] at ho4 | (simp only [Int.reduceToNat] at ho4; rw [← Ny382.out] at ho4)); have HO384 := Aside0.mk (Kd.R_lower ho4 (below_size (tb HB))); replace HB := bs HB hb; clear hb ho4))
 go_loopg [5, 10] k (fun kq v5 v10 w' => ∃ (x5_1 : List Int) (x10_1 : Int), v10 = .int .i64 x10_1 ∧ Aside0 (impl_Meaning.l0 kq l0 l1 x5_1 (l0.length : Int) x10_1 = some r) ∧ Aside0 (kq ≤ k) ∧ Aside0 (Kd.R (Kd.int .i64) 3 w' w.heap.size (fun _ => True) v5 x5_1) ∧ Aside0 (Below w.heap.size w w'))
 case atStart => exact ⟨(y382), (0), (by first | rfl | (simp; done) | (simp [*]; done)), H', ⟨Nat.le_refl _⟩, ⟨kr HO384.out⟩, ⟨tb HB⟩⟩
 case round =>
  clear H'
  try clear c1
  try clear c2
  try clear p2
  obtain ⟨x5_1, x10_1, rfl, HA, HK1, HO_5, HB⟩ := hrel
  cases gk with
  | zero => exact absurd HA.out (by simp [impl_Meaning.l0])
  | succ k1 =>
   have H := HA.out
   clear HA
   simp only [impl_Meaning.l0] at H
   by_cases c5 : x10_1 < (l0.length : Int)
   ·rw [if_pos c5] at H
    have c5b0 := decide_eq_true c5
    clear c5
    replace H := Option.bind_eq_some_iff.mp H
    obtain ⟨t385, A60, H⟩ := H
    replace H : (if x5_1.length < 17592186044416 then (impl_Meaning.l0 k1 l0 l1 (x5_1 ++ [t385]) (l0.length : Int) (wrap64 (x10_1 + 1))) else (none)) = some r := H
    have A6 := Aside0.mk A60
    clear A60
    by_cases c7 : x5_1.length < 17592186044416
    ·rw [if_pos c7] at H
     have LMc7 := Aside0.mk c7
     clear c7
     obtain ⟨y386, hy386⟩ : ∃ y_ : List Int, y_ = (x5_1 ++ [t385]) := ⟨_, rfl⟩
     replace H : (impl_Meaning.l0 k1 l0 l1 y386 (l0.length : Int) (wrap64 (x10_1 + 1))) = some r := by first | (rw [hy386]; with_reducible exact H) | (have H2_ := (Option.bind_some _ _).symm.trans H; rw [hy386]; with_reducible exact H2_) | (have H2_ := (Option.bind_some _ _).symm.trans H; with_reducible exact H2_) | with_reducible exact H | (rw [hy386]; exact H) | exact H
     have Ny386 := Aside0.mk hy386
     clear hy386
     have H' := Aside0.mk H
     clear H
     go_wp2_with (first | ((with_reducible refine gate_callee (f := 99) rfl ?_); refine gL 17 Try.func99 #[.slice A0 l0.length c0, .slice A1 l1.length c1, .int .i64 x10_1] ?_; (with_reducible refine (impl_ValueAt.calls k1 _ _ l0 _ _ l1 x10_1 t385 _ ?side1 ?side2 ?side3 ?side4 A6.out).mono ?_); (case side1 => exact kc HR0 HB); (case side2 => exact HC0.out); (case side3 => exact kc HR1 HB); (case side4 => exact HC1.out); rintro e w8 ⟨rfl, hb⟩; refine ⟨_, rfl, ?_⟩; replace HO_5 := rb HO_5 hb; replace HB := bs HB hb; (try clear hb); (try clear hb2); (try clear hk); (try clear hi)) | ((with_reducible refine gate_builtin (b := .append) (xs := #[.tmp 13, .tmp 18]) rfl ?_); at_builtin; refine Kd.R_append (Kd.int .i64) (w0 := w) w.heap.size rfl (.tmp 13) (.tmp 18) 22 3 (.int .i64 0) 8 rfl Try.underlying22 info3 rfl (by decide) (by omega) u5 x5_1 t385 [.int .i64 t385] (fun _ => True) (fun _ => False) rfl rfl ?aP (fun _ hk => hk.elim) ?aF ?aO ?aB ?aS ?aL ?_; (case aP => exact rfl); (case aB => exact (tb HB)); (case aF => exact (fun _ _ => trivial)); (case aO => exact (kr HO_5.out)); (case aS => exact (below_size (tb HB))); (case aL => have := LMc7.out; omega); intro v387 w9 ho hb hg hat; rw [← Ny386.out] at ho; replace HB := Aside0.mk (hb); have HO388 := Aside0.mk (ho); clear HO_5; clear ho hb hg hat))
     go_roundg k1
     case measure => have := HK1.out; omega
     case rel => exact ⟨(y386), (wrap64 (x10_1 + 1)), (by first | rfl | (simp; done) | (simp [*]; done)), H', ⟨by have := HK1.out; omega⟩, ⟨kr HO388.out⟩, ⟨tb HB⟩⟩
    ·rw [if_neg c7] at H
     exact absurd H (by simp)
   ·rw [if_neg c5] at H
    have c5b0 := decide_eq_false c5
    clear c5
    obtain rfl := Option.some.inj H
    go_wp2
    go_ret
    exact ⟨_, er, kr HO_5.out, tb HB⟩
end Go.Proofs.Ytopikhjcbcpiaaa.Q
