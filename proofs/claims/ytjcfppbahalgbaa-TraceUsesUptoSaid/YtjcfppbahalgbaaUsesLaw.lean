/- What the document's words on sources, links and variables come to: plain lists, no program. -/
import Derived.Test.YtjcfppbahalgbaaFirst
namespace Go.Proofs.Ytjcfppbahalgbaa
open Go.RowKit
set_option linter.unusedSimpArgs false
set_option linter.unusedVariables false

/-! ### rising lists -/
theorem upTo_spec {d : Array Int} (hs : ∀ i j, i ≤ j → j < d.size → d[i]! ≤ d[j]!) : ∀ m, m ≤ d.size → (Lib.compactUpTo d m).Pairwise (· < ·) ∧ ∀ x, x ∈ Lib.compactUpTo d m ↔ ∃ j, j < m ∧ d[j]! = x
  | 0, _ => by simp [Lib.compactUpTo]
  | m + 1, hm => by
    obtain ⟨hp, hmem⟩ := upTo_spec hs m (by omega)
    rw [Lib.compactUpTo_succ]
    cases hk : Lib.keeps d m with
    | true =>
      rw [if_pos rfl]
      have hlt : ∀ j, j < m → d[j]! < d[m]! := by
        intro j hj
        unfold Lib.keeps at hk
        simp only [decide_eq_true_eq] at hk
        rcases hk with hk | hk
        · omega
        · have h1 := hs j (m - 1) (by omega) (by omega)
          have h2 := hs (m - 1) m (by omega) (by omega)
          omega
      refine ⟨?_, fun x => ?_⟩
      · rw [List.pairwise_append]
        refine ⟨hp, List.pairwise_singleton _ _, ?_⟩
        intro a ha b hb
        rw [List.mem_singleton] at hb
        obtain ⟨j, hj, rfl⟩ := (hmem a).1 ha
        rw [hb]
        exact hlt j hj
      · rw [List.mem_append, hmem, List.mem_singleton]
        constructor
        · rintro (⟨j, hj, h⟩ | h)
          · exact ⟨j, by omega, h⟩
          · exact ⟨m, by omega, h.symm⟩
        · rintro ⟨j, hj, h⟩
          by_cases e : j = m
          · subst e
            exact .inr h.symm
          · exact .inl ⟨j, by omega, h⟩
    | false =>
      simp only [Bool.false_eq_true, if_false, List.append_nil]
      refine ⟨hp, fun x => ?_⟩
      rw [hmem]
      unfold Lib.keeps at hk
      rw [decide_eq_false_iff_not] at hk
      have h0 : m ≠ 0 := fun e => hk (.inl e)
      have h1 : d[m]! = d[m - 1]! := Decidable.byContradiction fun e => hk (.inr e)
      constructor
      · rintro ⟨j, hj, h⟩
        exact ⟨j, by omega, h⟩
      · rintro ⟨j, hj, h⟩
        by_cases e : j = m
        · subst e
          exact ⟨j - 1, by omega, by rw [← h1]; exact h⟩
        · exact ⟨j, by omega, h⟩
theorem norm_spec (l : List Int) : (norm l).Pairwise (· < ·) ∧ ∀ x, x ∈ norm l ↔ x ∈ l := by
  have hsort : (l.mergeSort fun x y => decide (x ≤ y)).Pairwise (fun a b => decide (a ≤ b) = true) :=
    List.pairwise_mergeSort (fun a b c h1 h2 => by simp at *; omega) (fun a b => by simp; omega) l
  obtain ⟨ms, hms⟩ : ∃ ms, (l.mergeSort fun x y => decide (x ≤ y)) = ms := ⟨_, rfl⟩
  have hmem : ∀ x, x ∈ ms ↔ x ∈ l := fun x => by rw [← hms]; exact List.mem_mergeSort
  rw [hms] at hsort
  have h := upTo_spec (d := ms.toArray) (fun i j hij hj => by
    have hj' : j < ms.length := by simpa using hj
    have hi' : i < ms.length := by omega
    rw [getElem!_pos ms.toArray i (by simpa using hi'), getElem!_pos ms.toArray j (by simpa using hj')]
    simp only [List.getElem_toArray]
    rcases Nat.lt_or_ge i j with h | h
    · have := List.pairwise_iff_getElem.1 hsort i j (by omega) hj' h
      simpa using this
    · have e : i = j := by omega
      subst e
      exact Int.le_refl _) ms.length (by simp)
  unfold norm Lib.compact
  rw [hms]
  refine ⟨h.1, fun x => ?_⟩
  rw [h.2, ← hmem]
  constructor
  · rintro ⟨j, hj, rfl⟩
    rw [getElem!_pos _ _ (by simpa using hj)]
    simp
  · intro hx
    obtain ⟨j, hj, rfl⟩ := List.mem_iff_getElem.1 hx
    exact ⟨j, hj, by rw [getElem!_pos _ _ (by simpa using hj)]; simp⟩
theorem rising_ext : ∀ {a b : List Int}, a.Pairwise (· < ·) → b.Pairwise (· < ·) → (∀ x, x ∈ a ↔ x ∈ b) → a = b
  | [], [], _, _, _ => rfl
  | [], y :: b, _, _, h => absurd ((h y).2 (by simp)) (by simp)
  | x :: a, [], _, _, h => absurd ((h x).1 (by simp)) (by simp)
  | x :: a, y :: b, ha, hb, h => by
    rw [List.pairwise_cons] at ha hb
    have hxy : x = y := by
      have h1 := (h x).1 (by simp)
      have h2 := (h y).2 (by simp)
      rw [List.mem_cons] at h1 h2
      rcases h1 with h1 | h1
      · exact h1
      · rcases h2 with h2 | h2
        · exact h2.symm
        · have := ha.1 y h2
          have := hb.1 x h1
          omega
    subst hxy
    rw [rising_ext ha.2 hb.2 fun z => ?_]
    have hz := h z
    rw [List.mem_cons, List.mem_cons] at hz
    constructor
    · intro hm
      rcases hz.1 (.inr hm) with e | e
      · subst e
        exact absurd (ha.1 z hm) (by omega)
      · exact e
    · intro hm
      rcases hz.2 (.inr hm) with e | e
      · subst e
        exact absurd (hb.1 z hm) (by omega)
      · exact e
theorem rising_norm {a l : List Int} (ha : a.Pairwise (· < ·)) (h : ∀ x, x ∈ a ↔ x ∈ l) : a = norm l :=
  rising_ext ha (norm_spec l).1 fun x => by rw [h, (norm_spec l).2]
theorem rising_put {out : List Int} {x : Int} {k : Nat} (h : out.Pairwise (· < ·)) (hlow : ∀ y ∈ out.take k, y < x) (hhi : ∀ y, out[k]? = some y → x < y) :
    (out.take k ++ x :: out.drop k).Pairwise (· < ·) := by
  have h0 : (out.take k ++ out.drop k).Pairwise (· < ·) := by rw [List.take_append_drop]; exact h
  rw [List.pairwise_append] at h0
  have hd : ∀ y ∈ out.drop k, x < y := by
    intro y hy
    cases hq : out.drop k with
    | nil => rw [hq] at hy; cases hy
    | cons z r =>
      have hz : out[k]? = some z := by
        have : (out.drop k)[0]? = some z := by rw [hq]; rfl
        rwa [List.getElem?_drop, Nat.add_zero] at this
      have h1 := hhi z hz
      have h2 := h0.2.1
      rw [hq, List.pairwise_cons] at h2
      rw [hq, List.mem_cons] at hy
      rcases hy with rfl | hy
      · exact h1
      · have := h2.1 y hy
        omega
  rw [List.pairwise_append]
  refine ⟨h0.1, List.pairwise_cons.2 ⟨hd, h0.2.1⟩, ?_⟩
  intro a ha b hb
  rw [List.mem_cons] at hb
  rcases hb with rfl | hb
  · exact hlow a ha
  · exact h0.2.2 a ha b hb
theorem mem_put {out : List Int} {x y : Int} {k : Nat} : y ∈ out.take k ++ x :: out.drop k ↔ y ∈ out ∨ y = x := by
  rw [List.mem_append, List.mem_cons]
  have : y ∈ out ↔ y ∈ out.take k ∨ y ∈ out.drop k := by
    rw [← List.mem_append, List.take_append_drop]
  rw [this]
  constructor
  · rintro (h | h | h)
    · exact .inl (.inl h)
    · exact .inr h
    · exact .inl (.inr h)
  · rintro ((h | h) | h)
    · exact .inl h
    · exact .inr (.inr h)
    · exact .inr (.inl h)

/-! ### what is taken -/
/-- Where the document's answer stands at place i of what has been put out. -/
def OpensR (vs : List TVrt) (regs out : List TSrc) (i : Nat) (virts : List Int) : Prop := ∀ ys, Taken vs (out.drop i) virts.reverse ys → Taken vs regs [] (out.take i ++ ys)
theorem opensR_start (vs : List TVrt) (regs : List TSrc) : OpensR vs regs regs 0 [] := fun ys h => by simpa using h
theorem drop_at {α : Type} {l : List α} {i : Nat} {x : α} (h : l[i]? = some x) : l.drop i = x :: l.drop (i + 1) := by
  obtain ⟨h1, h2⟩ := List.getElem?_eq_some_iff.1 h
  rw [List.drop_eq_getElem_cons h1, h2]
theorem take_at {α : Type} {l : List α} {i : Nat} {x : α} (h : l[i]? = some x) : l.take (i + 1) = l.take i ++ [x] := by
  obtain ⟨h1, h2⟩ := List.getElem?_eq_some_iff.1 h
  rw [List.take_succ_eq_append_getElem h1, h2]
theorem opensR_skip {vs : List TVrt} {regs out : List TSrc} {i : Nat} {virts : List Int} {s : TSrc} (h : OpensR vs regs out i virts) (hs : out[i]? = some s) (hn : ¬ (s.k = 2 ∧ s.n ∉ virts)) : OpensR vs regs out (i + 1) virts := by
  intro ys hy
  have h1 := h (s :: ys) (by rw [drop_at hs]; exact .skip (by simpa using hn) hy)
  rw [take_at hs, List.append_assoc]
  exact h1
theorem opensR_virt {vs : List TVrt} {regs out : List TSrc} {i : Nat} {virts : List Int} {s : TSrc} {v : TVrt} (h : OpensR vs regs out i virts) (hs : out[i]? = some s) (h2 : s.k = 2) (hn : s.n ∉ virts) (hv : vs[s.n.toNat]? = some v) :
    OpensR vs regs (out ++ v.cells) (i + 1) (virts ++ [s.n]) := by
  intro ys hy
  have hi := (List.getElem?_eq_some_iff.1 hs).1
  rw [List.drop_append_of_le_length (by omega), List.reverse_append, List.reverse_singleton, List.singleton_append] at hy
  have h1 := h (s :: ys) (by rw [drop_at hs]; exact .virt h2 (by simpa using hn) hv hy)
  rw [List.take_append_of_le_length (by omega), take_at hs, List.append_assoc]
  exact h1
theorem opensR_end {vs : List TVrt} {regs out : List TSrc} {virts : List Int} (h : OpensR vs regs out out.length virts) : Taken vs regs [] out := by
  have := h [] (by rw [List.drop_length]; exact .nil _)
  rwa [List.take_length, List.append_nil] at this
/-- Where the document's answer stands at link n, those below it having been put at the front. -/
def Above (ls : List TLnk) (link n : Int) (acc : List Int) : Prop := ∀ ys, Chain ls n ys → Chain ls link (acc.reverse ++ ys)
theorem above_start (ls : List TLnk) (link : Int) : Above ls link link [] := fun ys h => h
theorem above_step {ls : List TLnk} {link n : Int} {acc : List Int} {k : TLnk} (h : Above ls link n acc) (hn : 0 ≤ n) (hk : ls[n.toNat]? = some k) : Above ls link k.up (n :: acc) := by
  intro ys hy
  have := h (n :: ys) (.cons hn hk hy)
  rw [List.reverse_cons, List.append_assoc]
  exact this
theorem above_end {ls : List TLnk} {link n : Int} {acc : List Int} (h : Above ls link n acc) (hn : n < 0) : Chain ls link acc.reverse := by
  have := h [] (.nil hn)
  rwa [List.append_nil] at this

/-! ### made -/
def madeR (ni : Nat) (mk : List Bool) (s : TSrc) (at_ : Int) : Bool := s.k == 0 || (s.k == 1 && decide (s.n < ni + at_) && (decide (s.n < ni) || mk.getD (s.n - ni).toNat false))
theorem plain0 (nv : Nat) (s : TSrc) : plainS 0 s = (plainS nv s && s.k != 2) := by
  unfold plainS
  by_cases h0 : s.k = 0
  · simp [h0]
  by_cases h1 : s.k = 1
  · simp [h1]
  by_cases h2 : s.k = 2
  · simp [h2]
    intro a b
    omega
  simp [h0, h1, h2]
theorem made_of {nv ni : Nat} {mk : List Bool} {s : TSrc} {at_ : Int} (h : plainS nv s = true) (h2 : s.k ≠ 2) : madeS nv ni mk s at_ = madeR ni mk s at_ := by
  have hk : s.k = 0 ∨ s.k = 1 := by
    unfold plainS at h
    by_cases h0 : s.k = 0
    · exact .inl h0
    by_cases h1 : s.k = 1
    · exact .inr h1
    simp [h0, h1, h2] at h
  unfold madeS madeR
  rw [h]
  have e1 : decide (s.n - ni < at_) = decide (s.n < ni + at_) := by
    rw [decide_eq_decide]
    omega
  have e2 : decide (s.n - ni < 0) = decide (s.n < ni) := by
    rw [decide_eq_decide]
    omega
  rw [e1, e2]
  rcases hk with hk | hk <;> simp [hk]
theorem made_and {nv ni : Nat} {mk : List Bool} {s : TSrc} {at_ : Int} : madeS nv ni mk s at_ = (plainS 0 s && madeR ni mk s at_) := by
  rw [plain0 nv]
  by_cases h2 : s.k = 2
  · simp [madeS, h2]
  cases h : plainS nv s with
  | false => simp [madeS, h]
  | true => rw [made_of h h2]; simp [h2]
end Go.Proofs.Ytjcfppbahalgbaa
