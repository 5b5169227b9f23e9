/- Part 3 of the steps by which the law is shown: what each function of the program, of the reference and of the law computes. No condition. -/
import Derived.Test.YtopikhjcbcpiaaaMng2
section
namespace Go.Proofs.Ytopikhjcbcpiaaa.Q
open Go.RowKit Go.Proofs.YtopikhjcbcpiaaaW.PrintWords Go.Proofs.YtopikhjcbcpiaaaX
def cvDesc (x : S138) : S145 := ⟨x.f0, x.f1, x.f2.map cvEntry, ⟨x.f3.f0, x.f3.f1⟩⟩
def fitD (x : S138) : Prop := x.f2.length ≤ 1048576 ∧ x.f3.f1.length ≤ 1048576
def fitE (x : S145) : Prop := x.f2.length ≤ 1048576 ∧ x.f3.f1.length ≤ 1048576
theorem szResD (c : Int) (l : List Int) (a : Int) (h0 : 0 ≤ a) (h1 : a ≤ 1048576) (hl : l.length ≤ 9223372036854775807) : laws_szRes.f c l a = some (if a < l.length then -1 else a - l.length) := by
  unfold laws_szRes.f
  rw [szIntS l a h0 h1 hl]
  by_cases h : a < l.length
  · simp [h]
  · simp only [if_neg h, Option.bind_some]; rw [if_neg (by omega)]
theorem szDesc_ok (x : S138) (a : Int) (h0 : 0 ≤ a) (h1 : a ≤ 1048576) (h2 : x.f2.length ≤ 9223372036854775807) (h4 : x.f3.f1.length ≤ 9223372036854775807) :
    ∃ r, laws_szDesc.f x.f0 x.f1 x.f2 x.f3.f0 x.f3.f1 a = some r ∧ (r < 0 ∨ (0 ≤ r ∧ r ≤ a ∧ fitD x)) := by
  unfold laws_szDesc.f
  rw [szEntryS x.f2 a h0 h1 h2]
  by_cases h : a < x.f2.length
  · exact ⟨-1, by simp [h], .inl (by omega)⟩
  · simp only [if_neg h, Option.bind_some]
    rw [if_neg (by omega), szResD _ _ _ (by omega) (by omega) h4]
    by_cases h' : a - x.f2.length < x.f3.f1.length
    · exact ⟨-1, by simp [h'], .inl (by omega)⟩
    · simp only [if_neg h', Option.bind_some]
      rw [if_neg (by omega)]
      exact ⟨_, rfl, .inr ⟨by omega, by omega, by unfold fitD; omega⟩⟩
theorem getD_at' {l : List S138} {i : Nat} (h : i < l.length) : l.getD i z138 = l[i] := by simp [List.getD_eq_getElem?_getD, List.getElem?_eq_getElem h]
theorem rd138 {l : List S138} {i : Nat} (h : i < l.length) : rd_T138 l (i : Int) = l[i] := by
  show l.getD (i : Int).toNat z138 = l[i]
  rw [Int.toNat_natCast]; exact getD_at' h
theorem rd145 {l : List S145} {i : Nat} (h : i < l.length) : rd_T145 l (i : Int) = l[i] := by
  show l.getD (i : Int).toNat z145 = l[i]
  rw [Int.toNat_natCast]; simp [List.getD_eq_getElem?_getD, List.getElem?_eq_getElem h]
theorem szDescS_ok (l : List S138) (a : Int) (h0 : 0 ≤ a) (h1 : a ≤ 1048576) (hl : l.length ≤ 9223372036854775807) (ho : ∀ x ∈ l, x.f2.length ≤ 9223372036854775807 ∧ x.f3.f1.length ≤ 9223372036854775807) :
    ∃ r, Ev (fun k => laws_szDescS.f k l a) r ∧ (r < 0 ∨ (0 ≤ r ∧ r ≤ a ∧ l.length ≤ 1048576 ∧ ∀ x ∈ l, fitD x)) := by
  unfold laws_szDescS.f
  rw [wrap_in (by omega) (by omega)]
  by_cases h : a - l.length < 0
  · exact ⟨-1, ev_pos h (Ev.now _), .inl (by omega)⟩
  · have key : ∀ (d i : Nat) (b : Int), i + d = l.length → 0 ≤ b → b ≤ 1048576 → ∃ r, Ev (fun k => laws_szDescS.l0 k l b (i : Int)) r ∧ (r < 0 ∨ (0 ≤ r ∧ r ≤ b ∧ ∀ x ∈ l.drop i, fitD x)) := by
      intro d
      induction d with
      | zero =>
        intro i b hi hb0 hb1
        refine ⟨b, ev_succ (fun k => ?_), .inr ⟨hb0, by omega, fun x hx => ?_⟩⟩
        · simp only [laws_szDescS.l0]; rw [if_neg (by omega)]
        · rw [List.drop_eq_nil_of_le (by omega)] at hx; cases hx
      | succ d ih =>
        intro i b hi hb0 hb1
        have hlt : i < l.length := by omega
        have hm := ho _ (List.getElem_mem hlt)
        obtain ⟨r, hr, hcase⟩ := szDesc_ok l[i] b hb0 hb1 hm.1 hm.2
        rcases hcase with hneg | ⟨hr0, hr1, hfit⟩
        · refine ⟨-1, ev_succ (fun k => ?_), .inl (by omega)⟩
          simp only [laws_szDescS.l0, rd138 hlt]
          rw [if_pos (by omega), if_pos (by omega), hr]
          simp only [Option.bind_some]
          rw [if_pos hneg]
        · obtain ⟨q, hq, hc⟩ := ih (i + 1) r (by omega) hr0 (by omega)
          refine ⟨q, Ev.step (fun k => ?_) hq, ?_⟩
          · simp only [laws_szDescS.l0, rd138 hlt]
            rw [if_pos (by omega), if_pos (by omega), hr]
            simp only [Option.bind_some]
            rw [if_neg (by omega), wrap_succ hlt (by omega)]
          · rcases hc with hc | ⟨c0, c1, c2⟩
            · exact .inl hc
            · refine .inr ⟨c0, by omega, fun x hx => ?_⟩
              rw [List.drop_eq_getElem_cons hlt] at hx
              rcases List.mem_cons.1 hx with rfl | hx
              · exact hfit
              · exact c2 x hx
    obtain ⟨r, hr, hc⟩ := key l.length 0 (a - l.length) (by omega) (by omega) (by omega)
    refine ⟨r, ev_neg h hr, ?_⟩
    rcases hc with hc | ⟨c0, c1, c2⟩
    · exact .inl hc
    · exact .inr ⟨c0, by omega, by omega, fun x hx => c2 x (by simpa using hx)⟩
theorem ev_toResD (c : Int) (l : List Int) (h : l.length ≤ 1048576) : Ev (fun k => laws_toRes.f k c l) (c, l) := Ev.bind (f := fun _ t => some (c, t)) (ev_toIntS l h) (Ev.now _)
theorem ev_toDesc (x : S138) (h : fitD x) : Ev (fun k => laws_toDesc.f k x.f0 x.f1 x.f2 x.f3.f0 x.f3.f1) (x.f0, x.f1, x.f2.map cvEntry, x.f3.f0, x.f3.f1) :=
  Ev.bind (f := fun k t346 => (laws_toRes.f k x.f3.f0 x.f3.f1).bind fun bt349 => some (x.f0, x.f1, t346, bt349.1, bt349.2)) (ev_toEntryS x.f2 h.1)
    (Ev.bind (f := fun _ (bt : Int × List Int) => some (x.f0, x.f1, x.f2.map cvEntry, bt.1, bt.2)) (ev_toResD _ _ h.2) (Ev.now _))
theorem ev_toDescS (l : List S138) (hl : l.length ≤ 1048576) (hf : ∀ x ∈ l, fitD x) : Ev (fun k => laws_toDescS.f k l) (l.map cvDesc) := by
  unfold laws_toDescS.f
  refine ev_pos (by omega) (ev_pos (by omega) ?_)
  refine ev_fill (g := fun k acc i => laws_toDescS.l0 k l acc i) (za := z138) ?_ ?_ _ (by simp)
  · intro acc i r hi hacc h
    have ht := ev_toDesc l[i] (hf _ (List.getElem_mem hi))
    rw [getD_at' hi] at h
    refine Ev.step (f := fun k => (laws_toDesc.f k l[i].f0 l[i].f1 l[i].f2 l[i].f3.f0 l[i].f3.f1).bind fun bt => laws_toDescS.l0 k l (acc.set i (⟨bt.1, bt.2.1, bt.2.2.1, (⟨bt.2.2.2.1, bt.2.2.2.2⟩ : S70)⟩ : S145)) ((i + 1 : Nat) : Int)) (fun k => ?_) (Ev.bind ht h)
    simp only [laws_toDescS.l0, rd138 hi]
    rw [if_pos (by omega), if_pos (by omega), wrap_succ hi (by omega)]
    congr 1
    funext bt
    rw [if_pos (by omega)]
    rfl
  · intro acc hacc
    refine ev_succ (fun k => ?_)
    simp only [laws_toDescS.l0]
    rw [if_neg (by omega)]
theorem ev_eqResD (c : Int) (l : List Int) (h : l.length ≤ 1048576) : Ev (fun k => laws_eqRes.f k c l c l) true := by
  unfold laws_eqRes.f
  exact ev_pos rfl (Ev.bind (f := fun _ t => if t = true then some true else some false) (ev_eqIntS l h) (ev_of fun k => by simp))
theorem ev_eqDesc (x : S145) (h : fitE x) : Ev (fun k => laws_eqDesc.f k x.f0 x.f1 x.f2 x.f3.f0 x.f3.f1 x.f0 x.f1 x.f2 x.f3.f0 x.f3.f1) true := by
  unfold laws_eqDesc.f
  refine ev_pos rfl (ev_pos rfl (Ev.bind (ev_eqEntryS x.f2 h.1) (ev_pos rfl (Ev.bind (ev_eqResD _ _ h.2) (ev_pos rfl (Ev.now _))))))
theorem ev_eqDescS (l : List S145) (hl : l.length ≤ 1048576) (hf : ∀ x ∈ l, fitE x) : Ev (fun k => laws_eqDescS.f k l l) true := by
  unfold laws_eqDescS.f
  refine ev_pos rfl ?_
  refine ev_down (g := fun k i => laws_eqDescS.l0 k l l i) (R := fun _ => true) (n := l.length) ?_ 0 (by omega)
  intro i hi h
  by_cases hlt : i < l.length
  · have he := ev_eqDesc l[i] (hf _ (List.getElem_mem hlt))
    refine Ev.step (f := fun k => (laws_eqDesc.f k l[i].f0 l[i].f1 l[i].f2 l[i].f3.f0 l[i].f3.f1 l[i].f0 l[i].f1 l[i].f2 l[i].f3.f0 l[i].f3.f1).bind fun t => if t = true then laws_eqDescS.l0 k l l ((i + 1 : Nat) : Int) else some false) (fun k => ?_) (Ev.bind he (ev_pos rfl (h hlt)))
    simp only [laws_eqDescS.l0, rd145 hlt]
    rw [if_pos (by omega), if_pos (by omega), if_pos (by omega), wrap_succ hlt (by omega)]
  · refine ev_succ (fun k => ?_)
    simp only [laws_eqDescS.l0]
    rw [if_neg (by omega)]
theorem wrap3 {m : Int} (h0 : 0 ≤ m) (h1 : m ≤ 1125899906842624) : wrap64 (m + 1) = m + 1 := wrap_in (by omega) (by omega)
theorem ev_markEntryS (l : List S166) (m : Int) (h0 : 0 ≤ m) (h1 : m + 3 * (l.length : Int) ≤ 1125899906842000) (hl : l.length ≤ 1048576) : ∃ l', Ev (fun k => laws_markEntryS.f k l m) (m + 3 * (l.length : Int), l') := by
  have key : ∀ (d i : Nat) (acc : List S166) (m : Int), acc.length = l.length → i + d = l.length → 0 ≤ m → m + 3 * (d : Int) ≤ 1125899906842000 → ∃ l', Ev (fun k => laws_markEntryS.l0 k acc m (i : Int)) (m + 3 * (d : Int), l') := by
    intro d
    induction d with
    | zero =>
      intro i acc m ha hi _ _
      refine ⟨acc, ev_succ (fun k => ?_)⟩
      simp only [laws_markEntryS.l0]; rw [if_neg (by omega)]; simp
    | succ d ih =>
      intro i acc m ha hi hm0 hm1
      obtain ⟨l', h⟩ := ih (i + 1) (((acc.set i (⟨m, (rd_T166 acc i).f1, (rd_T166 acc i).f2⟩ : S166)).set i (⟨(rd_T166 (acc.set i (⟨m, (rd_T166 acc i).f1, (rd_T166 acc i).f2⟩ : S166)) i).f0, m + 1, (rd_T166 (acc.set i (⟨m, (rd_T166 acc i).f1, (rd_T166 acc i).f2⟩ : S166)) i).f2⟩ : S166)).set i (⟨(rd_T166 ((acc.set i (⟨m, (rd_T166 acc i).f1, (rd_T166 acc i).f2⟩ : S166)).set i (⟨(rd_T166 (acc.set i (⟨m, (rd_T166 acc i).f1, (rd_T166 acc i).f2⟩ : S166)) i).f0, m + 1, (rd_T166 (acc.set i (⟨m, (rd_T166 acc i).f1, (rd_T166 acc i).f2⟩ : S166)) i).f2⟩ : S166)) i).f0, (rd_T166 ((acc.set i (⟨m, (rd_T166 acc i).f1, (rd_T166 acc i).f2⟩ : S166)).set i (⟨(rd_T166 (acc.set i (⟨m, (rd_T166 acc i).f1, (rd_T166 acc i).f2⟩ : S166)) i).f0, m + 1, (rd_T166 (acc.set i (⟨m, (rd_T166 acc i).f1, (rd_T166 acc i).f2⟩ : S166)) i).f2⟩ : S166)) i).f1, m + 1 + 1⟩ : S166)) (m + 1 + 1 + 1) (by simpa using ha) (by omega) (by omega) (by omega)
      refine ⟨l', ev_to (Ev.step (fun k => ?_) h) (by congr 1; omega)⟩
      simp only [laws_markEntryS.l0, Option.bind_some]
      rw [if_pos (by omega), if_pos (by omega), wrap3 hm0 (by omega), wrap3 (show 0 ≤ m + 1 by omega) (by omega), wrap3 (show 0 ≤ m + 1 + 1 by omega) (by omega), wrap_succ (show i < l.length by omega) (by omega)]
      rfl
  exact key l.length 0 l m rfl (by omega) h0 h1
theorem ev_markWordS (l : List S141) (m : Int) (h0 : 0 ≤ m) (h1 : m + 3 * (l.length : Int) ≤ 1125899906842000) (hl : l.length ≤ 1048576) : ∃ l', Ev (fun k => laws_markWordS.f k l m) (m + 3 * (l.length : Int), l') := by
  have key : ∀ (d i : Nat) (acc : List S141) (m : Int), acc.length = l.length → i + d = l.length → 0 ≤ m → m + 3 * (d : Int) ≤ 1125899906842000 → ∃ l', Ev (fun k => laws_markWordS.l0 k acc m (i : Int)) (m + 3 * (d : Int), l') := by
    intro d
    induction d with
    | zero =>
      intro i acc m ha hi _ _
      refine ⟨acc, ev_succ (fun k => ?_)⟩
      simp only [laws_markWordS.l0]; rw [if_neg (by omega)]; simp
    | succ d ih =>
      intro i acc m ha hi hm0 hm1
      obtain ⟨l', h⟩ := ih (i + 1) (((acc.set i (⟨m, (rd_T141 acc i).f1, (rd_T141 acc i).f2⟩ : S141)).set i (⟨(rd_T141 (acc.set i (⟨m, (rd_T141 acc i).f1, (rd_T141 acc i).f2⟩ : S141)) i).f0, m + 1, (rd_T141 (acc.set i (⟨m, (rd_T141 acc i).f1, (rd_T141 acc i).f2⟩ : S141)) i).f2⟩ : S141)).set i (⟨(rd_T141 ((acc.set i (⟨m, (rd_T141 acc i).f1, (rd_T141 acc i).f2⟩ : S141)).set i (⟨(rd_T141 (acc.set i (⟨m, (rd_T141 acc i).f1, (rd_T141 acc i).f2⟩ : S141)) i).f0, m + 1, (rd_T141 (acc.set i (⟨m, (rd_T141 acc i).f1, (rd_T141 acc i).f2⟩ : S141)) i).f2⟩ : S141)) i).f0, (rd_T141 ((acc.set i (⟨m, (rd_T141 acc i).f1, (rd_T141 acc i).f2⟩ : S141)).set i (⟨(rd_T141 (acc.set i (⟨m, (rd_T141 acc i).f1, (rd_T141 acc i).f2⟩ : S141)) i).f0, m + 1, (rd_T141 (acc.set i (⟨m, (rd_T141 acc i).f1, (rd_T141 acc i).f2⟩ : S141)) i).f2⟩ : S141)) i).f1, m + 1 + 1⟩ : S141)) (m + 1 + 1 + 1) (by simpa using ha) (by omega) (by omega) (by omega)
      refine ⟨l', ev_to (Ev.step (fun k => ?_) h) (by congr 1; omega)⟩
      simp only [laws_markWordS.l0, Option.bind_some]
      rw [if_pos (by omega), if_pos (by omega), wrap3 hm0 (by omega), wrap3 (show 0 ≤ m + 1 by omega) (by omega), wrap3 (show 0 ≤ m + 1 + 1 by omega) (by omega), wrap_succ (show i < l.length by omega) (by omega)]
      rfl
  exact key l.length 0 l m rfl (by omega) h0 h1
theorem ev_markDescS (l : List S145) (m : Int) (h0 : 0 ≤ m) (h1 : m ≤ 4194304) (hl : l.length ≤ 1048576) (hf : ∀ x ∈ l, fitE x) : ∃ r, Ev (fun k => laws_markDescS.f k l m) r ∧ 0 ≤ r := by
  have key : ∀ (d i : Nat) (acc : List S145) (m : Int), acc.length = l.length → (∀ x ∈ acc.drop i, fitE x) → i + d = l.length → 0 ≤ m → m + 8388608 * (d : Int) ≤ 9007199254740992 / 8 → ∃ r, Ev (fun k => laws_markDescSX.l0 k acc m (i : Int)) r ∧ 0 ≤ r.1 := by
    intro d
    induction d with
    | zero =>
      intro i acc m ha hfit hi hm0 _
      refine ⟨(m, acc), ev_succ (fun k => ?_), hm0⟩
      simp only [laws_markDescSX.l0]; rw [if_neg (by omega)]
    | succ d ih =>
      intro i acc m ha hfit hi hm0 hm1
      have hlt : i < acc.length := by omega
      have hx : fitE acc[i] := hfit _ (by rw [List.drop_eq_getElem_cons hlt]; exact List.mem_cons_self)
      obtain ⟨e2, h2⟩ := ev_markEntryS acc[i].f2 (m + 1 + 1) (by omega) (by have := hx.1; omega) hx.1
      have h4 := ev_markIntS acc[i].f3.f1 (m + 1 + 1 + 3 * (acc[i].f2.length : Int) + 1) (by omega) (by have := hx.1; omega) hx.2
      obtain ⟨r, hr, hr0⟩ := ih (i + 1) (acc.set i (⟨m, m + 1, e2, ⟨m + 1 + 1 + 3 * (acc[i].f2.length : Int), marks (m + 1 + 1 + 3 * (acc[i].f2.length : Int) + 1) 0 acc[i].f3.f1.length⟩⟩ : S145)) (m + 1 + 1 + 3 * (acc[i].f2.length : Int) + 1 + acc[i].f3.f1.length) (by simpa using ha) (fun x hx2 => hfit x (by
        rw [List.drop_set_of_lt (by omega)] at hx2
        rw [List.drop_eq_getElem_cons hlt]
        exact List.mem_cons_of_mem _ hx2)) (by omega) (by omega) (by have := hx.1; have := hx.2; omega)
      refine ⟨r, Ev.step (f := fun k => (laws_markEntryS.f k acc[i].f2 (m + 1 + 1)).bind fun b2 => (laws_markIntS.f k acc[i].f3.f1 (wrap64 (b2.1 + 1))).bind fun b4 => laws_markDescSX.l0 k (acc.set i (⟨m, m + 1, b2.2, ⟨b2.1, b4.2⟩⟩ : S145)) b4.1 ((i + 1 : Nat) : Int)) (fun k => ?_) (Ev.bind h2 ?_), hr0⟩
      · simp only [laws_markDescSX.l0, rd145 hlt]
        rw [if_pos (by omega), if_pos (by omega), wrap3 hm0 (by omega), wrap3 (show 0 ≤ m + 1 by omega) (by omega), wrap_succ (show i < acc.length from hlt) (by omega)]
        rfl
      · simp only
        rw [wrap3 (by omega) (by have := hx.1; omega)]
        exact Ev.bind h4 hr
  obtain ⟨r, hr, hr0⟩ := key l.length 0 l m rfl (by simpa using hf) (by omega) h0 (by omega)
  exact ⟨r.1, Ev.bind (f := fun _ (r : Int × List S145) => some r.1) hr (Ev.now _), hr0⟩
theorem fitE_cv {l : List S138} (hf : ∀ x ∈ l, fitD x) : ∀ x ∈ l.map cvDesc, fitE x := by
  intro x hx
  obtain ⟨y, hy, rfl⟩ := List.mem_map.1 hx
  have := hf y hy
  exact ⟨by simpa [cvDesc] using this.1, this.2⟩
end Go.Proofs.Ytopikhjcbcpiaaa.Q
end
section
/- The plain part of the law about Meaning: for words and tries that hold up to 1048576 parts together both tell the same list, and what is marked stays marked. -/
namespace Go.Proofs.Ytopikhjcbcpiaaa.Q
open Go.RowKit Go.Proofs.YtopikhjcbcpiaaaW.PrintWords Go.Proofs.YtopikhjcbcpiaaaX
theorem entries_both (a b : Int) (l : List S166) (c : Int) (m : List Int) (at_ : Int) (hl : l.length ≤ 1048576) : ∃ q, Ev (fun k => spec_Entries.f k a b l c m at_) q ∧ Ev (fun k => impl_Entries.f k a b l c m at_) q := by
  have key : ∀ (d i : Nat), i + d = l.length → ∃ q, Ev (fun k => spec_Entries.l0 k at_ (i : Int) a b l c m) q ∧ Ev (fun k => impl_Entries.l0 k at_ l (l.length : Int) (i : Int)) q := by
    intro d
    induction d with
    | zero =>
      intro i hi
      refine ⟨(0, 0, 0, false), ev_succ (fun k => ?_), ev_succ (fun k => ?_)⟩
      · simp only [spec_Entries.l0]; rw [if_neg (by omega)]
      · simp only [impl_Entries.l0]; rw [if_neg (by omega)]
    | succ d ih =>
      intro i hi
      have hlt : i < l.length := by omega
      by_cases e : (rd_T166 l (i : Int)).f0 = at_
      · refine ⟨((rd_T166 l (i : Int)).f0, (rd_T166 l (i : Int)).f1, (rd_T166 l (i : Int)).f2, true), ev_succ (fun k => ?_), ev_succ (fun k => ?_)⟩
        · simp only [spec_Entries.l0]; rw [if_pos (by omega), if_pos (by omega), if_pos e]
        · simp only [impl_Entries.l0]; rw [if_pos (by omega), if_pos (by omega), if_pos (by omega), if_pos e]
      · obtain ⟨q, h1, h2⟩ := ih (i + 1) (by omega)
        refine ⟨q, Ev.step (fun k => ?_) h1, Ev.step (fun k => ?_) h2⟩
        · simp only [spec_Entries.l0]; rw [if_pos (by omega), if_pos (by omega), if_neg e, wrap_succ hlt (by omega)]
        · simp only [impl_Entries.l0]; rw [if_pos (by omega), if_pos (by omega), if_pos (by omega), if_neg e, wrap_succ hlt (by omega)]
  exact key l.length 0 (by omega)
theorem valueAt_both (ws : List S141) (ds : List S145) (i : Nat) (hi : i < ws.length) (hw : ws.length ≤ 1048576) (hd : ds.length ≤ 1048576) (hf : ∀ x ∈ ds, fitE x) : ∃ v, Ev (fun k => spec_ValueAt.f k ws ds (i : Int)) v ∧ Ev (fun k => impl_ValueAt.f k ws ds (i : Int)) v := by
  unfold spec_ValueAt.f impl_ValueAt.f
  simp only [l1In_eq, from_eq, Option.bind_some]
  have hin : inB (i : Int) 0 (wrap64 ((ws.length : Int) - 1)) = true := by
    rw [wrap_in (by omega) (by omega)]; simp [inB]; omega
  have p1 : (0 : Int) ≤ (i : Int) := by omega
  have p2 : (i : Int) < (ws.length : Int) := by omega
  simp only [hin, p1, p2, if_true]
  by_cases e0 : (rd_T141 ws (i : Int)).f1 = 0
  · exact ⟨_, ev_pos e0 (Ev.now _), ev_pos e0 (Ev.now _)⟩
  · by_cases e1 : inB (rd_T141 ws (i : Int)).f1 1 (ds.length : Int) = true
    · have hb : 1 ≤ (rd_T141 ws (i : Int)).f1 ∧ (rd_T141 ws (i : Int)).f1 ≤ (ds.length : Int) := by simpa [inB] using e1
      have hwr : wrap64 ((rd_T141 ws (i : Int)).f1 - 1) = (rd_T141 ws (i : Int)).f1 - 1 := wrap_in (by omega) (by omega)
      obtain ⟨n, hn⟩ : ∃ n : Nat, (rd_T141 ws (i : Int)).f1 - 1 = (n : Int) := ⟨((rd_T141 ws (i : Int)).f1 - 1).toNat, by omega⟩
      have hnlt : n < ds.length := by omega
      rw [hwr, hn]
      have hx := hf _ (List.getElem_mem hnlt)
      rw [rd145 hnlt]
      obtain ⟨⟨q0, q1, q2, q3⟩, h1, h2⟩ := entries_both ds[n].f0 ds[n].f1 ds[n].f2 ds[n].f3.f0 ds[n].f3.f1 (i : Int) hx.1
      have g0 : (0 : Int) ≤ (n : Int) := by omega
      have g1 : (n : Int) < (ds.length : Int) := by omega
      by_cases e2 : ds[n].f0 = (rd_T141 ws (i : Int)).f2
      · by_cases e3 : ds[n].f1 = 2
        · exact ⟨q2, ev_neg e0 (ev_pos e1 (ev_pos g0 (ev_pos g1 (Ev.bind h1 (ev_pos e2 (ev_pos e3 (Ev.now _))))))), ev_neg e0 (ev_pos e1 (ev_pos g0 (ev_pos g1 (Ev.bind h2 (ev_pos e2 (ev_pos e3 (Ev.now _)))))))⟩
        · exact ⟨q1, ev_neg e0 (ev_pos e1 (ev_pos g0 (ev_pos g1 (Ev.bind h1 (ev_pos e2 (ev_neg e3 (Ev.now _))))))), ev_neg e0 (ev_pos e1 (ev_pos g0 (ev_pos g1 (Ev.bind h2 (ev_pos e2 (ev_neg e3 (Ev.now _)))))))⟩
      · exact ⟨q1, ev_neg e0 (ev_pos e1 (ev_pos g0 (ev_pos g1 (Ev.bind h1 (ev_neg e2 (Ev.now _)))))), ev_neg e0 (ev_pos e1 (ev_pos g0 (ev_pos g1 (Ev.bind h2 (ev_neg e2 (Ev.now _))))))⟩
    · exact ⟨0, ev_neg e0 (ev_neg e1 (Ev.now _)), ev_neg e0 (ev_neg e1 (Ev.now _))⟩
theorem meaning_both (ws : List S141) (ds : List S145) (hw : ws.length ≤ 1048576) (hd : ds.length ≤ 1048576) (hf : ∀ x ∈ ds, fitE x) : ∃ r : List Int, Ev (fun k => spec_Meaning.f k ws ds) r ∧ Ev (fun k => impl_Meaning.f k ws ds) r ∧ r.length = ws.length := by
  have key : ∀ (d i : Nat) (acc : List Int), i + d = ws.length → acc.length = i → ∃ r : List Int, Ev (fun k => spec_Meaning.l0 k ws ds acc (i : Int)) r ∧ Ev (fun k => impl_Meaning.l0 k ws ds acc (ws.length : Int) (i : Int)) r ∧ r.length = ws.length := by
    intro d
    induction d with
    | zero =>
      intro i acc hi ha
      refine ⟨acc, ev_succ (fun k => ?_), ev_succ (fun k => ?_), by omega⟩
      · simp only [spec_Meaning.l0]; rw [if_neg (by omega)]
      · simp only [impl_Meaning.l0]; rw [if_neg (by omega)]
    | succ d ih =>
      intro i acc hi ha
      have hlt : i < ws.length := by omega
      obtain ⟨v, v1, v2⟩ := valueAt_both ws ds i hlt hw hd hf
      obtain ⟨r, h1, h2, h3⟩ := ih (i + 1) (acc ++ [v]) (by omega) (by simp [ha])
      refine ⟨r, Ev.step (f := fun k => (spec_ValueAt.f k ws ds (i : Int)).bind fun t => spec_Meaning.l0 k ws ds (acc ++ [t]) ((i + 1 : Nat) : Int)) (fun k => ?_) (Ev.bind v1 h1), Ev.step (f := fun k => (impl_ValueAt.f k ws ds (i : Int)).bind fun t => impl_Meaning.l0 k ws ds (acc ++ [t]) (ws.length : Int) ((i + 1 : Nat) : Int)) (fun k => ?_) (Ev.bind v2 h2), h3⟩
      · simp only [spec_Meaning.l0]
        rw [if_pos (by omega), wrap_succ hlt (by omega)]
        congr 1; funext t; rw [if_pos (by omega)]
      · simp only [impl_Meaning.l0]
        rw [if_pos (by omega), wrap_succ hlt (by omega)]
        congr 1; funext t; rw [if_pos (by omega)]
  exact key ws.length 0 [] (by omega) rfl
end Go.Proofs.Ytopikhjcbcpiaaa.Q
namespace Go.Proofs.Ytopikhjcbcpiaaa.Pure
open Go.RowKit Go.Proofs.Ytopikhjcbcpiaaa.Q Go.Proofs.YtopikhjcbcpiaaaW.PrintWords Go.Proofs.YtopikhjcbcpiaaaX
theorem FnExactMeaning : laws_FnExactMeaning.Pure := by
  intro l0 l1 ok0 ok1
  have hl0 : l0.length ≤ 9223372036854775807 := ok0.1
  have hl1 : l1.length ≤ 9223372036854775807 := ok1.1
  have ho : ∀ x ∈ l1, x.f2.length ≤ 9223372036854775807 ∧ x.f3.f1.length ≤ 9223372036854775807 := fun x hx => by
    have := ok1.2 x hx
    unfold ok138 ok62 at this
    exact ⟨this.2.2.1.1, this.2.2.2.2.1⟩
  clear ok0 ok1
  suffices h : Ev (fun k => laws_FnExactMeaning.f k l0 l1) true by
    obtain ⟨a, ha⟩ := h
    exact ⟨a, ha a (Nat.le_refl _)⟩
  unfold laws_FnExactMeaning.f
  rw [szWordS l0 1048576 (by omega) (by omega) hl0]
  by_cases h1 : (1048576 : Int) < l0.length
  · exact ev_of fun k => by simp [h1]
  · simp only [if_neg h1, Option.bind_some]
    refine ev_neg (by omega) ?_
    obtain ⟨r, hr, hc⟩ := szDescS_ok l1 (1048576 - (l0.length : Int)) (by omega) (by omega) hl1 ho
    rcases hc with hneg | ⟨r0, r1, hlen, hfit⟩
    · exact Ev.bind hr (ev_pos hneg (Ev.now _))
    · refine Ev.bind hr (ev_neg (by omega) ?_)
      have tW := ev_toWordS l0 (by omega)
      have tD := ev_toDescS l1 hlen hfit
      have hfe := fitE_cv hfit
      obtain ⟨g, a1, a2, hg⟩ := meaning_both (l0.map cvWord) (l1.map cvDesc) (by simp; omega) (by simp; omega) hfe
      have hg' : g.length ≤ 1048576 := by rw [hg, List.length_map]; omega
      have eg := ev_eqIntS g hg'
      have held := ev_heldIntS 1 g.length (by omega) (by omega) hg'
      obtain ⟨m1, hm1⟩ := ev_markWordS (l0.map cvWord) 1 (by omega) (by simp; omega) (by simp; omega)
      obtain ⟨m2, hm2, hm20⟩ := ev_markDescS (l1.map cvDesc) (1 + 3 * ((l0.map cvWord).length : Int)) (by simp; omega) (by simp; omega) (by simp; omega) hfe
      refine Ev.bind tW (Ev.bind tD (Ev.bind a1 (Ev.bind tW (Ev.bind tD (Ev.bind a2 (Ev.bind eg (ev_pos rfl ?_)))))))
      refine Ev.bind tW (Ev.bind (ev_eqWordS _ (by simp; omega)) (ev_pos rfl ?_))
      refine Ev.bind tD (Ev.bind (ev_eqDescS _ (by simp; omega) hfe) (ev_pos rfl ?_))
      refine Ev.bind hm1 (Ev.bind hm2 (ev_neg (by omega) (Ev.bind eg ?_)))
      refine Ev.step (f := fun k => (laws_markIntS.f k g 1).bind fun bt450 => ((laws_heldIntS.f k bt450.2 1).bind fun t452 => (if t452 < 0 then (some false) else (if t452 = bt450.1 then ((laws_toWordS.f k l0).bind fun t453 => ((laws_toDescS.f k l1).bind fun t456 => ((impl_Meaning.f k t453 t456).bind fun t459 => ((laws_eqIntS.f k t459 g).bind fun t462 => (if t462 = true then ((laws_heldIntS.f k bt450.2 1).bind fun t463 => (if t463 < 0 then (some false) else (if t463 = bt450.1 then (some true) else (some false)))) else (some false)))))) else (some false))))) (fun k => ?_) ?_
      · simp [laws_FnExactMeaning.j0]
      · refine Ev.bind (ev_markIntS g 1 (by omega) (by omega) hg') ?_
        refine Ev.bind held (ev_neg (by omega) (ev_pos rfl ?_))
        refine Ev.bind tW (Ev.bind tD (Ev.bind a2 (Ev.bind eg (ev_pos rfl ?_))))
        exact Ev.bind held (ev_neg (by omega) (ev_pos rfl (Ev.now _)))
end Go.Proofs.Ytopikhjcbcpiaaa.Pure
end
