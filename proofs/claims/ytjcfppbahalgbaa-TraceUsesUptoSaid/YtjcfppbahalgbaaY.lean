/- A trace that came in as an argument, opened: what lies where, and that its numbers fit. -/
import Derived.Test.YtjcfppbahalgbaaRows
import Derived.Test.YtjcfppbahalgbaaK
import Derived.Test.YtjcfppbahalgbaaG
import Derived.Deep.Slices
import Derived.ProofKit
import Derived.OpenShut
import Derived.ChangeOld
namespace Go.Proofs.Ytjcfppbahalgbaa
open Go.ChangeShapes Go.WideShapes Go.ChangeAt Go.RowKit Go.Deep
set_option linter.unusedVariables false
section
variable {H : Type} {enc : TypeId × Value → H} {W : World} {sp : Nat → Bool} {held : Bool}
theorem bulk_one (d : DataW H) : 1 ≤ Rows.uptoBulk d := by
  cases d with
  | lit l => cases l <;> simp [Rows.uptoBulk]
  | nil => simp [Rows.uptoBulk]
  | ptr d => simp [Rows.uptoBulk]
  | slice elems spare => simp [Rows.uptoBulk]
  | agg parts => simp [Rows.uptoBulk]
  | iface t d => simp [Rows.uptoBulk]
  | map entries => simp [Rows.uptoBulk]
  | held h => simp [Rows.uptoBulk]
theorem bulk_part {d : DataW H} {l : List (DataW H)} (h : d ∈ l) : Rows.uptoBulk d ≤ Rows.uptoBulkAll l := by
  induction l with
  | nil => cases h
  | cons x r ih =>
    simp only [Rows.uptoBulkAll]
    cases List.mem_cons.1 h with
    | inl e => subst e; omega
    | inr e => have := ih e; omega
theorem bulk_length (l : List (DataW H)) : l.length ≤ Rows.uptoBulkAll l := by
  induction l with
  | nil => simp [Rows.uptoBulkAll]
  | cons x r ih => have := bulk_one x; simp only [Rows.uptoBulkAll, List.length_cons]; omega
/-- What is read at a type: small, and as Q says. -/
def Opens (enc : TypeId × Value → H) (W : World) (sp : Nat → Bool) (held : Bool) (t : TypeId) (sz : Nat) (Q : List Value → Prop) : Prop :=
  ∀ fuel cs x, DataW.trod enc Try.prog W 0 sp held fuel t cs = some x → Rows.uptoBulk x.1 ≤ 1048576 → cs.length = sz ∧ Q cs
theorem opens_int {t : TypeId} (ht : Try.prog.underlying t = some (.int .i64)) : Opens enc W sp held t 1 (fun cs => ∃ n, cs = [.int .i64 n] ∧ I64 n) := by
  intro fuel cs x h hb
  obtain ⟨n, rfl, -, hw⟩ := DataW.trod_int ht h
  refine ⟨rfl, n, rfl, ?_⟩
  simpa [Lit.wf, IntKind.min, IntKind.max, IntKind.signed, IntKind.bits, I64] using hw
theorem opens_fields {t : TypeId} {fl : List Field} {fuel : Nat} {cs : List Value} {x : DataW H × List MemPlace} (ht : Try.prog.underlying t = some (.struct fl.toArray)) (h : DataW.trod enc Try.prog W 0 sp held fuel t cs = some x) (hb : Rows.uptoBulk x.1 ≤ 1048576) :
    cs.length = Try.prog.cellsOf t ∧ ∀ (i : Nat) (f : Field), fl[i]? = some f → ∀ sz Q, Opens enc W sp held f.type sz Q → Q ((cs.drop f.offset).take (Try.prog.cellsOf f.type)) := by
  obtain ⟨xs, n, _, rfl, hl, hlen, hf⟩ := DataW.trod_struct ht h
  refine ⟨hl, fun i f hi sz Q ho => ?_⟩
  have h1 := hf i f (by rw [List.getElem?_toArray]; exact hi)
  have hlt : i < xs.length := by rw [hlen, List.size_toArray]; exact (List.getElem?_eq_some_iff.1 hi).1
  rw [List.getElem?_eq_getElem hlt] at h1
  refine (ho _ _ _ h1 ?_).2
  have hm : xs[i].1 ∈ xs.map (·.1) := List.mem_map.2 ⟨_, List.getElem_mem hlt, rfl⟩
  have := bulk_part hm
  simp only [Rows.uptoBulk] at hb
  omega
theorem opens_row {α : Type} {R : World → α → List Value → Prop} {Good : α → Prop} {sz : Nat} {t e : TypeId} (ht : Try.prog.underlying t = some (.slice e)) (hsz : Try.prog.cellsOf e = sz) (hpos : 0 < sz)
    (ho : Opens enc W sp held e sz (fun cs => ∃ a, R W a cs ∧ Good a)) :
    Opens enc W sp held t 1 (fun cs => ∃ A xs c, cs = [.slice A xs.length c] ∧ xs.length ≤ c ∧ c ≤ maxLen ∧ xs.length ≤ 1048576 ∧ RowAt R sz W A xs ∧ ∀ a ∈ xs, Good a) := by
  intro fuel cs x h hb
  rcases open_slice ht h with ⟨rfl, rfl⟩ | ⟨a, len, cap, m, n, D, Pl, rfl, hba, hl, hm, hmm, rfl, hat⟩
  · exact ⟨rfl, none, [], 0, rfl, Nat.le_refl _, Nat.zero_le _, Nat.zero_le _, fun h => absurd h (by simp), fun a ha => by cases ha⟩
  · have hlm : len ≤ m := by rw [hmm]; split <;> omega
    have hlb : len ≤ 1048576 := by
      have h1 := bulk_length ((List.range len).map D)
      simp only [Rows.uptoBulk, List.length_map, List.length_range] at hb h1
      omega
    have hch : ∀ i, ∃ a' : Option α, i < len → ∃ (b : α) (cs' : List Value), a' = some b ∧ W.cells? 0 (a.add (i * sz)) sz = some cs' ∧ R W b cs' ∧ cs'.length = sz ∧ Good b := by
      intro i
      by_cases hi : i < len
      · obtain ⟨cs', h1, h2⟩ := hat i (by omega)
        rw [hsz] at h1
        have hbi : Rows.uptoBulk (D i) ≤ 1048576 := by
          have := bulk_part (l := (List.range len).map D) (List.mem_map.2 ⟨i, List.mem_range.2 hi, rfl⟩)
          simp only [Rows.uptoBulk] at hb
          omega
        obtain ⟨h3, b, h4, h5⟩ := ho _ _ _ h2 hbi
        exact ⟨some b, fun _ => ⟨b, cs', rfl, h1, h4, h3, h5⟩⟩
      · exact ⟨none, fun h => absurd h hi⟩
    obtain ⟨f, hf⟩ := Classical.axiomOfChoice hch
    have hxl : ((List.range len).filterMap f).length = len ∧ ∀ i, i < len → ((List.range len).filterMap f)[i]? = f i := by
      have : ∀ k, k ≤ len → ((List.range k).filterMap f).length = k ∧ ∀ i, i < k → ((List.range k).filterMap f)[i]? = f i := by
        intro k
        induction k with
        | zero => intro _; exact ⟨rfl, fun i hi => by omega⟩
        | succ k ih =>
          intro hk
          obtain ⟨h1, h2⟩ := ih (by omega)
          obtain ⟨b, cs', hb', _⟩ := hf k (by omega)
          rw [List.range_succ, List.filterMap_append]
          simp only [List.filterMap_cons, hb', List.filterMap_nil]
          refine ⟨by simp [h1], fun i hi => ?_⟩
          by_cases hik : i < k
          · rw [List.getElem?_append_left (by omega)]; exact h2 i hik
          · obtain rfl : i = k := by omega
            rw [List.getElem?_append_right (by omega), h1]
            simp [hb']
      exact this len (Nat.le_refl _)
    refine ⟨rfl, some a, (List.range len).filterMap f, cap, by rw [hxl.1], by omega, hm, by omega, ?_, ?_⟩
    · intro h0
      rw [hxl.1] at h0
      obtain ⟨b0, cs0, _, hc0, _⟩ := hf 0 h0
      have hblk := World.cells?_block hc0 hpos
      obtain ⟨_, hl0, hcell0⟩ := World.cells?_some hc0
      have hspot : a.spot = none := by
        have h1 := hcell0 0 hpos
        have hlt : 0 < cs0.length := by omega
        rw [List.getElem?_eq_getElem hlt] at h1
        rw [Nat.zero_mul] at h1
        have h2 : (a.add 0).add 0 = a := by simp [Addr.add]
        rw [h2] at h1
        unfold World.cell? at h1
        split at h1
        · cases hs : a.spot with
          | none => rfl
          | some s => rw [hs] at h1; simp at h1
        · cases h1
      obtain ⟨ab, ao, asp⟩ := a
      simp only at hspot
      subst hspot
      refine ⟨ab, ao, rfl, by simpa [Addr.add] using hblk, fun j y hj => ?_⟩
      have hjl : j < len := by have := (List.getElem?_eq_some_iff.1 hj).1; omega
      obtain ⟨b, cs', hfb, hc, hR, hlc, hG⟩ := hf j hjl
      rw [hxl.2 j hjl, hfb] at hj
      cases hj
      refine ⟨cs', hR, hlc, fun i v hv => ?_⟩
      obtain ⟨_, _, hcell⟩ := World.cells?_some hc
      have := hcell i (by have := (List.getElem?_eq_some_iff.1 hv).1; omega)
      rw [add_at', add_at', hv] at this
      exact this
    · intro y hy
      obtain ⟨j, hj⟩ := List.getElem?_of_mem hy
      have hjl : j < len := by have := (List.getElem?_eq_some_iff.1 hj).1; omega
      obtain ⟨b, cs', hfb, hc, hR, hlc, hG⟩ := hf j hjl
      rw [hxl.2 j hjl, hfb] at hj
      cases hj
      exact hG
theorem list2 {l : List Value} (h : l.length = 2) : ∃ c0 c1, l = [c0, c1] := by
  rcases l with _ | ⟨c0, _ | ⟨c1, _ | ⟨x, l⟩⟩⟩
  all_goals first | (simp at h; done) | (exact ⟨_, _, rfl⟩) | (simp only [List.length_cons, List.length_nil] at h; omega)
theorem list4 {l : List Value} (h : l.length = 4) : ∃ c0 c1 c2 c3, l = [c0, c1, c2, c3] := by
  rcases l with _ | ⟨c0, _ | ⟨c1, _ | ⟨c2, _ | ⟨c3, _ | ⟨x, l⟩⟩⟩⟩⟩
  all_goals first | (simp at h; done) | (exact ⟨_, _, _, _, rfl⟩) | (simp only [List.length_cons, List.length_nil] at h; omega)
theorem list5 {l : List Value} (h : l.length = 5) : ∃ c0 c1 c2 c3 c4, l = [c0, c1, c2, c3, c4] := by
  rcases l with _ | ⟨c0, _ | ⟨c1, _ | ⟨c2, _ | ⟨c3, _ | ⟨c4, _ | ⟨x, l⟩⟩⟩⟩⟩⟩
  all_goals first | (simp at h; done) | (exact ⟨_, _, _, _, _, rfl⟩) | (simp only [List.length_cons, List.length_nil] at h; omega)
theorem list8 {l : List Value} (h : l.length = 8) : ∃ c0 c1 c2 c3 c4 c5 c6 c7, l = [c0, c1, c2, c3, c4, c5, c6, c7] := by
  rcases l with _ | ⟨c0, _ | ⟨c1, _ | ⟨c2, _ | ⟨c3, _ | ⟨c4, _ | ⟨c5, _ | ⟨c6, _ | ⟨c7, _ | ⟨x, l⟩⟩⟩⟩⟩⟩⟩⟩⟩
  all_goals first | (simp at h; done) | (exact ⟨_, _, _, _, _, _, _, _, rfl⟩) | (simp only [List.length_cons, List.length_nil] at h; omega)
theorem list10 {l : List Value} (h : l.length = 10) : ∃ c0 c1 c2 c3 c4 c5 c6 c7 c8 c9, l = [c0, c1, c2, c3, c4, c5, c6, c7, c8, c9] := by
  rcases l with _ | ⟨c0, _ | ⟨c1, _ | ⟨c2, _ | ⟨c3, _ | ⟨c4, _ | ⟨c5, _ | ⟨c6, _ | ⟨c7, _ | ⟨c8, _ | ⟨c9, _ | ⟨x, l⟩⟩⟩⟩⟩⟩⟩⟩⟩⟩⟩
  all_goals first | (simp at h; done) | (exact ⟨_, _, _, _, _, _, _, _, _, _, rfl⟩) | (simp only [List.length_cons, List.length_nil] at h; omega)
theorem list17 {l : List Value} (h : l.length = 17) : ∃ c0 c1 c2 c3 c4 c5 c6 c7 c8 c9 c10 c11 c12 c13 c14 c15 c16, l = [c0, c1, c2, c3, c4, c5, c6, c7, c8, c9, c10, c11, c12, c13, c14, c15, c16] := by
  rcases l with _ | ⟨c0, _ | ⟨c1, _ | ⟨c2, _ | ⟨c3, _ | ⟨c4, _ | ⟨c5, _ | ⟨c6, _ | ⟨c7, _ | ⟨c8, _ | ⟨c9, _ | ⟨c10, _ | ⟨c11, _ | ⟨c12, _ | ⟨c13, _ | ⟨c14, _ | ⟨c15, _ | ⟨c16, _ | ⟨x, l⟩⟩⟩⟩⟩⟩⟩⟩⟩⟩⟩⟩⟩⟩⟩⟩⟩⟩
  all_goals first | (simp at h; done) | (exact ⟨_, _, _, _, _, _, _, _, _, _, _, _, _, _, _, _, _, rfl⟩) | (simp only [List.length_cons, List.length_nil] at h; omega)
theorem of2 : Try.prog.cellsOf 2 = 1 := by kernel_rfl
theorem of3 : Try.prog.cellsOf 3 = 1 := by kernel_rfl
theorem of23 : Try.prog.cellsOf 23 = 2 := by kernel_rfl
theorem of24 : Try.prog.cellsOf 24 = 8 := by kernel_rfl
theorem of26 : Try.prog.cellsOf 26 = 10 := by kernel_rfl
theorem of27 : Try.prog.cellsOf 27 = 1 := by kernel_rfl
theorem of28 : Try.prog.cellsOf 28 = 1 := by kernel_rfl
theorem of29 : Try.prog.cellsOf 29 = 1 := by kernel_rfl
theorem of30 : Try.prog.cellsOf 30 = 1 := by kernel_rfl
theorem of31 : Try.prog.cellsOf 31 = 1 := by kernel_rfl
theorem of33 : Try.prog.cellsOf 33 = 17 := by kernel_rfl
theorem of41 : Try.prog.cellsOf 41 = 5 := by kernel_rfl
theorem of63 : Try.prog.cellsOf 63 = 4 := by kernel_rfl
theorem of66 : Try.prog.cellsOf 66 = 5 := by kernel_rfl
theorem of69 : Try.prog.cellsOf 69 = 2 := by kernel_rfl
theorem opens_val : Opens enc W sp held 23 2 (fun cs => ∃ a b, cs = [.int .i64 a, .int .i64 b]) := by
  intro fuel cs x h hb
  obtain ⟨hl, hf⟩ := opens_fields Try.underlying23 h hb
  rw [of23] at hl
  obtain ⟨c0, c1, rfl⟩ := list2 hl
  obtain ⟨n0, h0, -⟩ := hf 0 _ rfl 1 _ (opens_int Try.underlying3)
  obtain ⟨n1, h1, -⟩ := hf 1 _ rfl 1 _ (opens_int Try.underlying2)
  simp only [of3, of2, List.drop_zero, List.drop_succ_cons, List.take_succ_cons, List.take_zero, List.cons.injEq, and_true] at h0 h1
  exact ⟨rfl, n0, n1, by rw [h0, h1]⟩
theorem opens_src : Opens enc W sp held 63 4 (fun cs => ∃ s, SrcR W s cs ∧ I64 s.n) := by
  intro fuel cs x h hb
  obtain ⟨hl, hf⟩ := opens_fields Try.underlying63 h hb
  rw [of63] at hl
  obtain ⟨c0, c1, c2, c3, rfl⟩ := list4 hl
  obtain ⟨n0, h0, -⟩ := hf 0 _ rfl 1 _ (opens_int Try.underlying3)
  obtain ⟨n1, n2, h1⟩ := hf 1 _ rfl 2 _ opens_val
  obtain ⟨n3, h3, hi⟩ := hf 2 _ rfl 1 _ (opens_int Try.underlying3)
  simp only [of3, of23, List.drop_zero, List.drop_succ_cons, List.take_succ_cons, List.take_zero, List.cons.injEq, and_true] at h0 h1 h3
  exact ⟨rfl, ⟨n0, n1, n2, n3⟩, by rw [h0, h1.1, h1.2, h3]; rfl, hi⟩
theorem opens_srcs : Opens enc W sp held 31 1 (fun cs => ∃ A xs c, cs = [.slice A xs.length c] ∧ xs.length ≤ c ∧ c ≤ maxLen ∧ xs.length ≤ 1048576 ∧ RowAt SrcR 4 W A xs ∧ ∀ s ∈ xs, I64 s.n) :=
  opens_row (Good := fun s : TSrc => I64 s.n) Try.underlying31 of63 (by decide) opens_src
theorem opens_ints : Opens enc W sp held 27 1 (fun cs => ∃ A xs c, cs = [.slice A xs.length c] ∧ xs.length ≤ c ∧ c ≤ maxLen ∧ xs.length ≤ 1048576 ∧ RowAt IntR 1 W A xs ∧ ∀ n ∈ xs, I64 n) :=
  opens_row (Good := I64) Try.underlying27 of3 (by decide) (opens_int Try.underlying3)
theorem opens_op : Opens enc W sp held 41 5 (fun cs => ∃ o, OpR W o cs ∧ ∀ s ∈ o.args, I64 s.n) := by
  intro fuel cs x h hb
  obtain ⟨hl, hf⟩ := opens_fields Try.underlying41 h hb
  rw [of41] at hl
  obtain ⟨c0, c1, c2, c3, c4, rfl⟩ := list5 hl
  obtain ⟨n0, h0, -⟩ := hf 0 _ rfl 1 _ (opens_int Try.underlying3)
  obtain ⟨A, xs, c, h1, e1, e2, e3, e4, hi⟩ := hf 1 _ rfl 1 _ opens_srcs
  obtain ⟨n2, h2, -⟩ := hf 2 _ rfl 1 _ (opens_int Try.underlying2)
  obtain ⟨n3, h3, -⟩ := hf 3 _ rfl 1 _ (opens_int Try.underlying3)
  obtain ⟨n4, h4, -⟩ := hf 4 _ rfl 1 _ (opens_int Try.underlying3)
  simp only [of2, of3, of31, List.drop_zero, List.drop_succ_cons, List.take_succ_cons, List.take_zero, List.cons.injEq, and_true] at h0 h1 h2 h3 h4
  exact ⟨rfl, ⟨n0, xs, n2, n3, n4⟩, ⟨_, by rw [h0, h1, h2, h3, h4], A, c, rfl, e1, e2, e3, e4⟩, hi⟩
theorem opens_lnk : Opens enc W sp held 66 5 (fun cs => ∃ k, LnkR W k cs ∧ ∀ s ∈ k.regs, I64 s.n) := by
  intro fuel cs x h hb
  obtain ⟨hl, hf⟩ := opens_fields Try.underlying66 h hb
  rw [of66] at hl
  obtain ⟨c0, c1, c2, c3, c4, rfl⟩ := list5 hl
  obtain ⟨n0, h0, -⟩ := hf 0 _ rfl 1 _ (opens_int Try.underlying3)
  obtain ⟨n1, h1, -⟩ := hf 1 _ rfl 1 _ (opens_int Try.underlying3)
  obtain ⟨n2, h2, -⟩ := hf 2 _ rfl 1 _ (opens_int Try.underlying3)
  obtain ⟨n3, h3, -⟩ := hf 3 _ rfl 1 _ (opens_int Try.underlying3)
  obtain ⟨A, xs, c, h4, e1, e2, e3, e4, hi⟩ := hf 4 _ rfl 1 _ opens_srcs
  simp only [of3, of31, List.drop_zero, List.drop_succ_cons, List.take_succ_cons, List.take_zero, List.cons.injEq, and_true] at h0 h1 h2 h3 h4
  exact ⟨rfl, ⟨n0, n1, n2, n3, xs⟩, ⟨_, by rw [h0, h1, h2, h3, h4], A, c, rfl, e1, e2, e3, e4⟩, hi⟩
theorem opens_vrt : Opens enc W sp held 69 2 (fun cs => ∃ v, VrtR W v cs ∧ ∀ s ∈ v.cells, I64 s.n) := by
  intro fuel cs x h hb
  obtain ⟨hl, hf⟩ := opens_fields Try.underlying69 h hb
  rw [of69] at hl
  obtain ⟨c0, c1, rfl⟩ := list2 hl
  obtain ⟨n0, h0, -⟩ := hf 0 _ rfl 1 _ (opens_int Try.underlying3)
  obtain ⟨A, xs, c, h1, e1, e2, e3, e4, hi⟩ := hf 1 _ rfl 1 _ opens_srcs
  simp only [of3, of31, List.drop_zero, List.drop_succ_cons, List.take_succ_cons, List.take_zero, List.cons.injEq, and_true] at h0 h1
  exact ⟨rfl, ⟨n0, xs⟩, ⟨_, by rw [h0, h1], A, c, rfl, e1, e2, e3, e4⟩, hi⟩
theorem opens_vals : Opens enc W sp held 24 8 (fun cs => ∃ a b c d e f g i, cs = [.int .i64 a, .int .i64 b, .int .i64 c, .int .i64 d, .int .i64 e, .int .i64 f, .int .i64 g, .int .i64 i]) := by
  intro fuel cs x h hb
  obtain ⟨xs, n, _, rfl, hl, hlen, hf⟩ := DataW.trod_array Try.underlying24 h
  rw [of24] at hl
  have hq : ∀ i, i < 4 → ∃ a b, (cs.drop (i * 2)).take 2 = [.int .i64 a, .int .i64 b] := by
    intro i hi
    have h1 := hf i hi
    have hlt : i < xs.length := by omega
    rw [List.getElem?_eq_getElem hlt, of23] at h1
    have hm : xs[i].1 ∈ xs.map (·.1) := List.mem_map.2 ⟨_, List.getElem_mem hlt, rfl⟩
    have := bulk_part hm
    simp only [Rows.uptoBulk] at hb
    exact (opens_val _ _ _ h1 (by omega)).2
  obtain ⟨c0, c1, c2, c3, c4, c5, c6, c7, rfl⟩ := list8 hl
  obtain ⟨a0, b0, h0⟩ := hq 0 (by omega)
  obtain ⟨a1, b1, h1⟩ := hq 1 (by omega)
  obtain ⟨a2, b2, h2⟩ := hq 2 (by omega)
  obtain ⟨a3, b3, h3⟩ := hq 3 (by omega)
  simp at h0 h1 h2 h3
  exact ⟨rfl, a0, b0, a1, b1, a2, b2, a3, b3, by rw [h0.1, h0.2, h1.1, h1.2, h2.1, h2.2, h3.1, h3.2]⟩
theorem opens_key : Opens enc W sp held 26 10 (fun cs => ∃ k : TKey, cs = [.int .i64 k.m, .int .i64 k.n, .int .i64 k.a0, .int .i64 k.b0, .int .i64 k.a1, .int .i64 k.b1, .int .i64 k.a2, .int .i64 k.b2, .int .i64 k.a3, .int .i64 k.b3]) := by
  intro fuel cs x h hb
  obtain ⟨hl, hf⟩ := opens_fields Try.underlying26 h hb
  rw [of26] at hl
  obtain ⟨c0, c1, c2, c3, c4, c5, c6, c7, c8, c9, rfl⟩ := list10 hl
  obtain ⟨n0, h0, -⟩ := hf 0 _ rfl 1 _ (opens_int Try.underlying3)
  obtain ⟨n1, h1, -⟩ := hf 1 _ rfl 1 _ (opens_int Try.underlying3)
  obtain ⟨a, b, c, d, e, f, g, i, h2⟩ := hf 2 _ rfl 8 _ opens_vals
  simp only [of3, of24, List.drop_zero, List.drop_succ_cons, List.take_succ_cons, List.take_zero, List.take_nil, List.cons.injEq, and_true] at h0 h1 h2
  obtain ⟨r0, r1, r2, r3, r4, r5, r6, r7⟩ := h2
  exact ⟨rfl, ⟨n0, n1, a, b, c, d, e, f, g, i⟩, by rw [h0, h1, r0, r1, r2, r3, r4, r5, r6, r7]⟩
/-- What the numbers of a trace are. -/
structure Nums (t : Trc) : Prop where
  ins : ∀ n ∈ t.ins, I64 n
  args : ∀ o ∈ t.ops, ∀ s ∈ o.args, I64 s.n
  regs : ∀ k ∈ t.links, ∀ s ∈ k.regs, I64 s.n
  cells : ∀ v ∈ t.virts, ∀ s ∈ v.cells, I64 s.n
  back : ∀ s ∈ t.back, I64 s.n
theorem opens_trc : Opens enc W sp held 33 17 (fun cs => ∃ T : TV, cs = T.cells ∧ T.ok W ∧ Nums T.t) := by
  intro fuel cs x h hb
  obtain ⟨hl, hf⟩ := opens_fields Try.underlying33 h hb
  rw [of33] at hl
  obtain ⟨c0, c1, c2, c3, c4, c5, c6, c7, c8, c9, c10, c11, c12, c13, c14, c15, c16, rfl⟩ := list17 hl
  obtain ⟨k, h0⟩ := hf 0 _ rfl 10 _ opens_key
  obtain ⟨n1, h1, -⟩ := hf 1 _ rfl 1 _ (opens_int Try.underlying3)
  obtain ⟨n2, h2, -⟩ := hf 2 _ rfl 1 _ (opens_int Try.underlying3)
  obtain ⟨A3, x3, k3, h3, a3, b3, d3, e3, g3⟩ := hf 3 _ rfl 1 _ opens_ints
  obtain ⟨A4, x4, k4, h4, a4, b4, d4, e4, g4⟩ := hf 4 _ rfl 1 _ (opens_row (Good := fun o : TOp => ∀ s ∈ o.args, I64 s.n) Try.underlying28 of41 (by decide) opens_op)
  obtain ⟨A5, x5, k5, h5, a5, b5, d5, e5, g5⟩ := hf 5 _ rfl 1 _ (opens_row (Good := fun o : TLnk => ∀ s ∈ o.regs, I64 s.n) Try.underlying29 of66 (by decide) opens_lnk)
  obtain ⟨A6, x6, k6, h6, a6, b6, d6, e6, g6⟩ := hf 6 _ rfl 1 _ (opens_row (Good := fun o : TVrt => ∀ s ∈ o.cells, I64 s.n) Try.underlying30 of69 (by decide) opens_vrt)
  obtain ⟨A7, x7, k7, h7, a7, b7, d7, e7, g7⟩ := hf 7 _ rfl 1 _ opens_srcs
  simp only [of26, of3, of27, of28, of29, of30, of31, List.drop_zero, List.drop_succ_cons, List.take_succ_cons, List.take_zero, List.take_nil, List.cons.injEq, and_true] at h0 h1 h2 h3 h4 h5 h6 h7
  obtain ⟨r0, r1, r2, r3, r4, r5, r6, r7, r8, r9⟩ := h0
  refine ⟨rfl, ⟨⟨k, n1, n2, x3, x4, x5, x6, x7⟩, ⟨A3, k3⟩, ⟨A4, k4⟩, ⟨A5, k5⟩, ⟨A6, k6⟩, ⟨A7, k7⟩⟩, ?_, ⟨⟨a3, b3, d3, e3⟩, ⟨a4, b4, d4, e4⟩, ⟨a5, b5, d5, e5⟩, ⟨a6, b6, d6, e6⟩, ⟨a7, b7, d7, e7⟩⟩, ⟨g3, g4, g5, g6, g7⟩⟩
  rw [r0, r1, r2, r3, r4, r5, r6, r7, r8, r9, h1, h2, h3, h4, h5, h6, h7]
  rfl
end
end Go.Proofs.Ytjcfppbahalgbaa
