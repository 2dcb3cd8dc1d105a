/- Appending a slice that is read to a row of the call's own that may begin inside its block. -/
import Derived.Test.YtjcfppbahalgbaaK
import Derived.Test.YtjcfppbahalgbaaWWords
namespace Go.Proofs.Ytjcfppbahalgbaa
open Go.RowKit
open Go.Proofs.YtjcfppbahalgbaaW.PrintWords (QRow q_append q_drop q_cells q_of_own q_move q_lt q_typed q_slice)
section
variable {P : Program}
theorem run_append_q (w : World) (base : Nat) (t ty e : TypeId) (i : TypeInfo) (z : Value) (size bytes : Nat) (ht : P.underlying t = some (.slice e)) (hi : P.info? e = some i) (hz : i.zero = some z)
    (hsize : i.size = size) (hby : i.bytes = bytes) (hzs : z.cells.size = size) (hsz : 0 < size)
    (v : Value) (n : Nat) (xs : List Value) (hown : QRow w base e size v n xs)
    (A : Option Addr) (m c : Nat) (news : List Value) (hl : news.length = m * size) (hA : 0 < m → ∃ a, A = some a ∧ ∀ j u, news[j]? = some u → w.cell? (a.add j) = some u) (h1 : ∀ u ∈ news, u.oneCell' = true)
    (h63 : n + m ≤ maxLen) (hbytes : (n + m) * bytes ≤ 140737488355328) (hbase : base ≤ w.heap.size) :
    ∃ v' w', (Builtin.append_ #[t, t] ty #[v, .slice A m c]).run P w = .ok v' w' ∧ QRow w' base e size v' (n + m) (xs ++ news) ∧ w.grownBy w' v.ownBlock ∧ (v'.ownBlock = v.ownBlock ∨ ∃ b, v'.ownBlock = some b ∧ w.heap.size ≤ b) := by
  rcases Nat.eq_zero_or_pos m with rfl | hm
  · obtain ⟨A0, c0, rfl, hnc⟩ := q_slice hown
    have hn : news = [] := List.eq_nil_of_length_eq_zero (by simpa using hl)
    subst hn
    refine ⟨.slice A0 n c0, w, ?_, by simpa using hown, World.grownBy.refl w _, .inl rfl⟩
    cases A <;> cases A0 <;> simp [Builtin.append_, run_underlying ht, sizeOf, typeInfo, hi, Builtin.lenOf, Builtin.firstCells, hnc, storeCells, loadCells, loadCellsFrom]
  · obtain ⟨a, rfl, hc⟩ := hA hm
    exact q_append w base t ty e i z size bytes ht hi hz hsize hby hzs hsz v n xs hown a m c news hl hc h1 hm h63 hbytes hbase
theorem wpList_append_q {ops : Array Oper} {Q : Exit → Act → World → Prop} {rest : List Oper} {o : Oper} {a : Act} {w : World} (base : Nat) (hgd : o.guard = none) (s x : Operand) (t e : TypeId) (i : TypeInfo) (z : Value) (size bytes : Nat)
    (ho : o.op = .call { callee := .builtin .append, args := #[s, x], argTypes := #[t, t] }) (ht : P.underlying t = some (.slice e)) (hi : P.info? e = some i) (hz : i.zero = some z)
    (hsize : i.size = size) (hby : i.bytes = bytes) (hzs : z.cells.size = size) (hsz : 0 < size)
    {v : Value} {n : Nat} {xs : List Value} (hs : a.eval s = v) (hown : QRow w base e size v n xs)
    {A : Option Addr} {m c : Nat} (news : List Value) (hx : a.eval x = .slice A m c) (hl : news.length = m * size) (hA : 0 < m → ∃ a, A = some a ∧ ∀ j u, news[j]? = some u → w.cell? (a.add j) = some u) (h1 : ∀ u ∈ news, u.oneCell' = true)
    (h63 : n + m ≤ maxLen) (hbytes : (n + m) * bytes ≤ 140737488355328) (hbase : base ≤ w.heap.size)
    (h : ∀ v' w', QRow w' base e size v' (n + m) (xs ++ news) → w.grownBy w' v.ownBlock → (v'.ownBlock = v.ownBlock ∨ ∃ b, v'.ownBlock = some b ∧ w.heap.size ≤ b) → wpList P ops Q rest (a.put o.dst v') w') :
    wpList P ops Q (o :: rest) a w := by
  obtain ⟨v1, w1, hr, h2, h3, h4⟩ := run_append_q (P := P) w base t o.type e i z size bytes ht hi hz hsize hby hzs hsz v n xs hown A m c news hl hA h1 h63 hbytes hbase
  refine wpList_plain hgd fun K hK => ?_
  unfold Oper.wp execOp
  simp only [ho, resolve, invoke, builtin, Sem.run_bind, Sem.run_pure, Result.andThen_ok, List.map_toArray, List.map_cons, List.map_nil, hs, hx, hr]
  exact hK _ _ (h v1 w1 h2 h3 h4)
end
theorem flatMap_get {α : Type} (f : α → List Value) (sz : Nat) (hf : ∀ x, (f x).length = sz) (hs : 0 < sz) : ∀ (l : List α) (j : Nat) (u : Value), (l.flatMap f)[j]? = some u → ∃ x, l[j / sz]? = some x ∧ (f x)[j % sz]? = some u
  | [], j, u, h => by simp at h
  | x :: l, j, u, h => by
    rw [List.flatMap_cons] at h
    rcases Nat.lt_or_ge j sz with hj | hj
    · rw [List.getElem?_append_left (by rw [hf]; exact hj)] at h
      exact ⟨x, by rw [Nat.div_eq_of_lt hj]; rfl, by rw [Nat.mod_eq_of_lt hj]; exact h⟩
    · rw [List.getElem?_append_right (by rw [hf]; exact hj), hf] at h
      obtain ⟨y, h1, h2⟩ := flatMap_get f sz hf hs l (j - sz) u h
      have e : j / sz = (j - sz) / sz + 1 := by rw [← Nat.sub_add_cancel hj, Nat.add_div_right _ hs]; simp
      refine ⟨y, by rw [e]; exact h1, ?_⟩
      rw [← Nat.sub_add_cancel hj, Nat.add_mod_right]
      exact h2
theorem flatMap_length {α : Type} (f : α → List Value) (sz : Nat) (hf : ∀ x, (f x).length = sz) : ∀ (l : List α), (l.flatMap f).length = l.length * sz
  | [] => by simp
  | x :: l => by rw [List.flatMap_cons, List.length_append, hf, flatMap_length f sz hf l, List.length_cons, Nat.add_mul, Nat.one_mul, Nat.add_comm]
theorem flatMap_at {α : Type} (f : α → List Value) (sz : Nat) (hf : ∀ x, (f x).length = sz) : ∀ (l : List α) (j k : Nat) (x : α) (v : Value), l[j]? = some x → (f x)[k]? = some v → (l.flatMap f)[j * sz + k]? = some v
  | [], j, k, x, v, h, _ => by simp at h
  | y :: l, 0, k, x, v, h, hv => by
    have hk := (List.getElem?_eq_some_iff.1 hv).1
    rw [hf] at hk
    simp at h
    subst h
    rw [List.flatMap_cons, List.getElem?_append_left (by rw [hf]; omega)]
    simpa using hv
  | y :: l, j + 1, k, x, v, h, hv => by
    rw [List.flatMap_cons, List.getElem?_append_right (by rw [hf, Nat.add_mul]; omega), hf, show (j + 1) * sz + k - sz = j * sz + k by rw [Nat.add_mul]; omega]
    exact flatMap_at f sz hf l j k x v (by simpa using h) hv
theorem add_at' (g o j : Nat) : (⟨g, o, none⟩ : Addr).add j = ⟨g, o + j, none⟩ := by unfold Addr.add; split <;> simp_all
theorem rowAt_flat {α : Type} {R : World → α → List Value → Prop} (f : α → List Value) (sz : Nat) (hf : ∀ x, (f x).length = sz) (hs : 0 < sz) (hR : ∀ w x cs, R w x cs → cs = f x) {w : World} {A : Option Addr} {ys : List α}
    (h : RowAt R sz w A ys) : 0 < ys.length → ∃ a, A = some a ∧ ∀ j u, (ys.flatMap f)[j]? = some u → w.cell? (a.add j) = some u := by
  intro hl
  obtain ⟨b, o, rfl, _, hx⟩ := h hl
  refine ⟨_, rfl, fun j u hj => ?_⟩
  obtain ⟨x, h1, h2⟩ := flatMap_get f sz hf hs ys j u hj
  obtain ⟨cs, hr, _, hc⟩ := hx _ x h1
  rw [hR _ _ _ hr] at hc
  rw [add_at']
  have := hc _ _ h2
  rwa [Nat.add_assoc, Nat.div_add_mod'] at this
/-- A row that is owned, read. -/
theorem rowAt_q {α : Type} {R : World → α → List Value → Prop} (f : α → List Value) (sz : Nat) (hf : ∀ x, (f x).length = sz) (hs : 0 < sz) (hR : ∀ w x, R w x (f x)) {w : World} {base e n c : Nat} {A : Option Addr} {ys : List α}
    (h : QRow w base e sz (.slice A n c) n (ys.flatMap f)) : ys.length = n ∧ RowAt R sz w A ys := by
  have hl : ys.length = n := by
    have := h.1
    rw [flatMap_length f sz hf] at this
    exact Nat.eq_of_mul_eq_mul_right hs this
  refine ⟨hl, fun h0 => ?_⟩
  rcases h.2 with ⟨h1, _⟩ | ⟨g, off, cap, cur, he, hg, hh, hnc, hm, hcs, ht⟩
  · omega
  · injection he with ha _ hc
    subst ha
    refine ⟨g, off * sz, rfl, (Array.getElem?_eq_some_iff.1 hh).1, fun j x hj => ⟨f x, hR _ _, hf x, fun k v hv => ?_⟩⟩
    rw [cell_of_row w g _ cur e (0, 0) hh]
    have hfl := flatMap_at f sz hf ys j k x v hj hv
    rw [← ht, List.getElem?_take] at hfl
    split at hfl
    · rw [List.getElem?_drop] at hfl
      rw [← Array.getElem?_toList, Nat.add_assoc]
      exact hfl
    · cases hfl
end Go.Proofs.Ytjcfppbahalgbaa
