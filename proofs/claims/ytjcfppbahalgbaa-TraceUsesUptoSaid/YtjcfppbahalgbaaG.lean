/- What a link takes: the plain words; the map of what has been seen; appending within a fence. -/
import Derived.Test.YtjcfppbahalgbaaD
import Derived.Test.YtjcfppbahalgbaaF
import Derived.Maps.OwnIn
namespace Go.Proofs.Ytjcfppbahalgbaa
open Go.RowKit
open Go.Proofs.YtjcfppbahalgbaaW.PrintWords (QRow q_append q_drop q_cells q_of_own q_move q_lt q_typed q_slice)

/-! ### plain words -/
/-- What is handed over of 'todo', the Virts of 'seen' having been opened. -/
inductive Taken (vs : List TVrt) : List TSrc → List Int → List TSrc → Prop
  | nil (seen : List Int) : Taken vs [] seen []
  | skip {s : TSrc} {todo : List TSrc} {seen : List Int} {out : List TSrc} : ¬ (s.k = 2 ∧ s.n ∉ seen) → Taken vs todo seen out → Taken vs (s :: todo) seen (s :: out)
  | virt {s : TSrc} {todo : List TSrc} {seen : List Int} {v : TVrt} {out : List TSrc} : s.k = 2 → s.n ∉ seen → vs[s.n.toNat]? = some v → Taken vs (todo ++ v.cells) (s.n :: seen) out → Taken vs (s :: todo) seen (s :: out)
/-- The registers of links by their numbers. -/
def regsOf (ls : List TLnk) (l : List Int) : List TSrc := l.flatMap fun n => match ls[n.toNat]? with
  | some k => k.regs
  | none => []
/-- What link n takes, with those above it. -/
def TakenBy (t : Trc) (n : Int) (xs : List TSrc) : Prop := ∃ l, Chain t.links n l.reverse ∧ Taken t.virts (regsOf t.links l) [] xs
def I64 (x : Int) : Prop := -9223372036854775808 ≤ x ∧ x ≤ 9223372036854775807
def GoodS (nv : Nat) (s : TSrc) : Prop := plainS nv s = true ∧ I64 s.n
structure TakeOk (t : Trc) : Prop where
  up : UpOk t.links
  regs : ∀ k ∈ t.links, ∀ s ∈ k.regs, GoodS t.virts.length s
  cells : ∀ v ∈ t.virts, ∀ s ∈ v.cells, GoodS t.virts.length s
/-- How many cells there are in Virts not seen yet; the first of the list is number o. -/
def wtF : List TVrt → Nat → List Int → Nat
  | [], _, _ => 0
  | v :: vs, o, seen => (if (o : Int) ∈ seen then 0 else v.cells.length) + wtF vs (o + 1) seen
theorem wtF_less : ∀ (vs : List TVrt) (o j : Nat) (seen : List Int), j < o → wtF vs o ((j : Int) :: seen) = wtF vs o seen
  | [], _, _, _, _ => rfl
  | v :: vs, o, j, seen, h => by
    simp only [wtF, wtF_less vs (o + 1) j seen (by omega), List.mem_cons]
    have : ¬ (o : Int) = j := by omega
    simp [this]
theorem wtF_open : ∀ (vs : List TVrt) (o j : Nat) (seen : List Int) (v : TVrt), vs[j]? = some v → ((o + j : Nat) : Int) ∉ seen → wtF vs o seen = v.cells.length + wtF vs o (((o + j : Nat) : Int) :: seen)
  | [], _, _, _, _, h, _ => by simp at h
  | u :: vs, o, 0, seen, v, h, hn => by
    simp at h
    subst h
    simp only [wtF, Nat.add_zero] at hn ⊢
    rw [if_neg hn, if_pos (List.mem_cons_self), wtF_less vs (o + 1) o seen (by omega)]
    omega
  | u :: vs, o, j + 1, seen, v, h, hn => by
    simp only [wtF]
    have h1 := wtF_open vs (o + 1) j seen v (by simpa using h) (by rw [show o + 1 + j = o + (j + 1) by omega]; exact hn)
    rw [show o + 1 + j = o + (j + 1) by omega] at h1
    rw [h1]
    have : ¬ (o : Int) = ((o + (j + 1) : Nat) : Int) := by omega
    simp only [List.mem_cons, this, false_or]
    omega
theorem wtF_le : ∀ (vs : List TVrt) (o : Nat) (seen : List Int) (B : Nat), (∀ v ∈ vs, v.cells.length ≤ B) → wtF vs o seen ≤ vs.length * B
  | [], _, _, _, _ => by simp [wtF]
  | v :: vs, o, seen, B, h => by
    have h1 := wtF_le vs (o + 1) seen B (fun u hu => h u (List.mem_cons_of_mem _ hu))
    have h2 := h v List.mem_cons_self
    simp only [wtF, List.length_cons, Nat.add_mul, Nat.one_mul]
    split <;> omega

theorem taken_total (vs : List TVrt) (hc : ∀ v ∈ vs, ∀ s ∈ v.cells, GoodS vs.length s) : ∀ (m : Nat) (todo : List TSrc) (seen : List Int), m = todo.length + wtF vs 0 seen → (∀ s ∈ todo, GoodS vs.length s) → ∃ out, Taken vs todo seen out
  | m, [], seen, _, _ => ⟨[], .nil seen⟩
  | 0, s :: rest, seen, hm, _ => by simp at hm; omega
  | m + 1, s :: rest, seen, hm, hg => by
    by_cases h : s.k = 2 ∧ s.n ∉ seen
    · obtain ⟨hp, _⟩ := hg s List.mem_cons_self
      simp only [plainS, h.1] at hp
      simp at hp
      obtain ⟨⟨hn0, hn1⟩, _⟩ := hp
      obtain ⟨c, hcn⟩ : ∃ c : Nat, s.n = c := ⟨s.n.toNat, by omega⟩
      obtain ⟨v, hv⟩ : ∃ v, vs[c]? = some v := ⟨_, List.getElem?_eq_getElem (by omega)⟩
      have hw := wtF_open vs 0 c seen v hv (by rw [Nat.zero_add, ← hcn]; exact h.2)
      rw [Nat.zero_add] at hw
      rw [hw, List.length_cons] at hm
      obtain ⟨out, ho⟩ := taken_total vs hc m (rest ++ v.cells) ((c : Int) :: seen) (by rw [List.length_append]; omega) (fun x hx => by
        rcases List.mem_append.1 hx with hx | hx
        · exact hg x (List.mem_cons_of_mem _ hx)
        · exact hc v (List.mem_of_getElem? hv) x hx)
      exact ⟨s :: out, .virt h.1 h.2 (by rw [hcn]; simpa using hv) (by rw [hcn]; exact ho)⟩
    · rw [List.length_cons] at hm
      obtain ⟨out, ho⟩ := taken_total vs hc m rest seen (by omega) (fun x hx => hg x (List.mem_cons_of_mem _ hx))
      exact ⟨s :: out, .skip h ho⟩
theorem taken_fun {vs : List TVrt} {todo : List TSrc} {seen : List Int} {o1 : List TSrc} (h : Taken vs todo seen o1) : ∀ {o2 : List TSrc}, Taken vs todo seen o2 → o1 = o2 := by
  induction h with
  | nil _ => intro o2 h2; cases h2; rfl
  | skip hn _ ih =>
    intro o2 h2
    cases h2 with
    | skip _ h => rw [ih h]
    | virt h1 h2 _ _ => exact absurd ⟨h1, h2⟩ hn
  | virt h1 h2 hv _ ih =>
    intro o2 h2'
    cases h2' with
    | skip hn _ => exact absurd ⟨h1, h2⟩ hn
    | virt _ _ hv' h =>
      rw [hv] at hv'
      cases hv'
      rw [ih h]
theorem chain_fun {ls : List TLnk} {n : Int} {l1 : List Int} (h : Chain ls n l1) : ∀ {l2 : List Int}, Chain ls n l2 → l1 = l2 := by
  induction h with
  | nil hn =>
    intro l2 h2
    cases h2 with
    | nil _ => rfl
    | cons h0 _ _ => omega
  | cons h0 hk _ ih =>
    intro l2 h2
    cases h2 with
    | nil hn => omega
    | cons _ hk' h' =>
      rw [hk] at hk'
      cases hk'
      rw [ih h']
theorem takenBy_fun {t : Trc} {n : Int} {o1 o2 : List TSrc} (h1 : TakenBy t n o1) (h2 : TakenBy t n o2) : o1 = o2 := by
  obtain ⟨l1, c1, t1⟩ := h1
  obtain ⟨l2, c2, t2⟩ := h2
  have : l1 = l2 := by
    have := chain_fun c1 c2
    rw [← List.reverse_reverse l1, this, List.reverse_reverse]
  subst this
  exact taken_fun t1 t2

theorem taken_head {t : Trc} {n : Int} {s : TSrc} {rest pre : List TSrc} {seen : List Int} (hc : ∀ v ∈ t.virts, ∀ s ∈ v.cells, GoodS t.virts.length s) (hg : ∀ x ∈ s :: rest, GoodS t.virts.length x)
    (hk : ∀ out, Taken t.virts (s :: rest) seen out → TakenBy t n (pre ++ out)) : ∃ out, TakenBy t n (pre ++ s :: out) := by
  obtain ⟨out, ho⟩ := taken_total t.virts hc _ (s :: rest) seen rfl hg
  have h := hk out ho
  cases ho with
  | skip _ _ => exact ⟨_, h⟩
  | virt _ _ _ _ => exact ⟨_, h⟩

/-! ### the map of what has been seen -/
def seenD {H : Type} : List Int → DataW H
  | [] => .map []
  | x :: l => (seenD l).put (.int .i64 x) (.lit (.int .i64 1))
theorem seenD_map {H : Type} : ∀ l : List Int, Maps.IsMap (seenD (H := H) l)
  | [] => ⟨_, rfl⟩
  | _ :: l => (seenD_map l).put _ _
theorem seenD_at {H : Type} (x : Int) : ∀ l : List Int, (seenD (H := H) l).atKey (.int .i64 x) (.lit (.int .i64 0)) = .lit (.int .i64 (if x ∈ l then 1 else 0))
  | [] => by
    have : ∀ (k : Lit) (z : DataW H), (DataW.map []).atKey k z = z := fun _ _ => rfl
    simp [seenD, this]
  | y :: l => by
    unfold seenD
    by_cases h : x = y
    · subst h
      rw [Maps.atKey_put_same (seenD_map l) (by simp [WideAt.IsKeyLit])]
      simp
    · rw [Maps.atKey_put_other (by simp [h]), seenD_at x l]
      simp [h]

/-! ### within a fence -/
section
variable {P : Program} {F : Fence} {nF : Nat}
theorem wpListIn_append_q {ops : Array Oper} {Q : Exit → Act → World → Prop} {rest : List Oper} {o : Oper} {a : Act} {w : World} (base : Nat) (hgd : o.guard = none) (s x : Operand) (t e : TypeId) (i : TypeInfo) (z : Value) (size bytes : Nat)
    (ho : o.op = .call { callee := .builtin .append, args := #[s, x], argTypes := #[t, t] }) (ht : P.underlying t = some (.slice e)) (hi : P.info? e = some i) (hz : i.zero = some z)
    (hsize : i.size = size) (hby : i.bytes = bytes) (hzs : z.cells.size = size) (hsz : 0 < size)
    {v : Value} {n : Nat} {xs : List Value} (hs : a.eval s = v) (hown : QRow w base e size v n xs)
    {A : Option Addr} {m c : Nat} (news : List Value) (hx : a.eval x = .slice A m c) (hl : news.length = m * size) (hA : 0 < m → ∃ a, A = some a ∧ ∀ j u, news[j]? = some u → w.cell? (a.add j) = some u) (h1 : ∀ u ∈ news, u.oneCell' = true)
    (h63 : n + m ≤ maxLen) (hbytes : (n + m) * bytes ≤ 140737488355328) (hbase : base ≤ w.heap.size)
    (h : ∀ v' w', QRow w' base e size v' (n + m) (xs ++ news) → w.grownBy w' v.ownBlock → (v'.ownBlock = v.ownBlock ∨ ∃ b, v'.ownBlock = some b ∧ w.heap.size ≤ b) → wpListIn F nF P ops Q rest (a.put o.dst v') w') :
    wpListIn F nF P ops Q (o :: rest) a w := by
  obtain ⟨v1, w1, hr, h2, h3, h4⟩ := run_append_q (P := P) w base t o.type e i z size bytes ht hi hz hsize hby hzs hsz v n xs hown A m c news hl hA h1 h63 hbytes hbase
  refine wpListIn_plain hgd fun K hK => ?_
  unfold Oper.wpIn
  refine ⟨by simp [Oper.about, ho, resolve, Target.leads, Sem.run_pure], ?_⟩
  rw [Oper.semAt_plain F _ _ (by rw [ho]; intro c hc'; cases hc')]
  simp [execOp, ho, resolve, invoke, builtin, hs, hx, hr, Result.andThen]
  exact hK _ _ (h v1 w1 h2 h3 h4)
theorem wpListIn_load_row {ops : Array Oper} {rest : List Oper} {o : Oper} {a : Act} {w : World} {Q : Exit → Act → World → Prop} (hgd : o.guard = none) (ty : TypeId) (x : Operand) (ho : o.op = .load ty x)
    (g : Nat) (hx : a.eval x = .pointer (some ⟨g, 0, none⟩)) (t : TypeId) (cs : Array Value) (fr : Nat × Nat) (d : TypeDesc) (hg : w.heap[g]? = some (.cells cs t fr))
    (hu : P.underlying ty = some d) (hd : (match d with | .struct _ | .array _ _ => true | _ => false) = true) (hi : (P.info? ty).map (·.size) = some cs.size)
    (h : wpListIn F nF P ops Q rest (a.put o.dst (.agg cs)) w) : wpListIn F nF P ops Q (o :: rest) a w := by
  refine wpListIn_plain hgd fun K hK => ?_
  unfold Oper.wpIn
  refine ⟨by simp [Oper.about, ho], ?_⟩
  rw [Oper.semAt_plain F _ _ (by rw [ho]; intro c hc'; cases hc')]
  unfold execOp
  simp only [ho, hx, Instr.loadAt, Instr.sureAddr, Sem.run_bind, Sem.run_pure, Result.andThen_ok, run_loadVar_row w g t ty cs fr d hg hu hd hi]
  exact hK _ _ h
end
end Go.Proofs.Ytjcfppbahalgbaa
