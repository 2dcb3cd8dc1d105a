/- What a trace's values look like in memory, and small lemmas on worlds. No function of the program. -/
import Derived.WalkKit
import Derived.WalkLawsBesides
import Derived.WalkSpells
import Derived.Lib.Hide
import Derived.Deep.QuietTactic
import Derived.BigQuiet
namespace Go.Proofs.Ytjcfppbahalgbaa
open Go.RowKit

/-! ### plain data -/
structure TSrc where
  k : Int
  vk : Int
  vn : Int
  n : Int
deriving DecidableEq
structure TOp where
  op : Int
  args : List TSrc
  kk : Int
  c : Int
  snap : Int
deriving DecidableEq
structure TLnk where
  up : Int
  fn : Int
  pc : Int
  into : Int
  regs : List TSrc
deriving DecidableEq
structure TVrt where
  rc : Int
  cells : List TSrc
deriving DecidableEq
structure TKey where
  m : Int
  n : Int
  a0 : Int
  b0 : Int
  a1 : Int
  b1 : Int
  a2 : Int
  b2 : Int
  a3 : Int
  b3 : Int
deriving DecidableEq
structure Trc where
  key : TKey
  fn : Int
  pc : Int
  ins : List Int
  ops : List TOp
  links : List TLnk
  virts : List TVrt
  back : List TSrc
deriving DecidableEq

/-! ### values in memory -/
def At (w : World) (b o : Nat) (cs : List Value) : Prop := ∀ i v, cs[i]? = some v → w.cell? ⟨b, o + i, none⟩ = some v
theorem At.below {w w' : World} {b o : Nat} {cs : List Value} (h : At w b o cs) (hb : Below w.heap.size w w') : At w' b o cs := by
  intro i v hv
  have h1 := h i v hv
  exact (hb.cell (World.block_lt_of_cell? w _ h1)).trans h1
def RowAt {α : Type} (R : World → α → List Value → Prop) (sz : Nat) (w : World) (A : Option Addr) (xs : List α) : Prop :=
  0 < xs.length → ∃ b o, A = some ⟨b, o, none⟩ ∧ b < w.heap.size ∧ ∀ j x, xs[j]? = some x → ∃ cs, R w x cs ∧ cs.length = sz ∧ At w b (o + j * sz) cs
theorem RowAt.below {α : Type} {R : World → α → List Value → Prop} {sz : Nat} {w w' : World} {A : Option Addr} {xs : List α}
    (h : RowAt R sz w A xs) (hb : Below w.heap.size w w') (hR : ∀ x cs, R w x cs → R w' x cs) : RowAt R sz w' A xs := by
  intro hl
  obtain ⟨b, o, e, hlt, hx⟩ := h hl
  refine ⟨b, o, e, Nat.lt_of_lt_of_le hlt hb.size, fun j x hj => ?_⟩
  obtain ⟨cs, h1, h2, h3⟩ := hx j x hj
  exact ⟨cs, hR _ _ h1, h2, h3.below hb⟩
/-- A slice with these elements; no more than a million of them. -/
def Sl {α : Type} (R : World → α → List Value → Prop) (sz : Nat) (w : World) (v : Value) (xs : List α) : Prop :=
  ∃ A c, v = .slice A xs.length c ∧ xs.length ≤ c ∧ c ≤ maxLen ∧ xs.length ≤ 1048576 ∧ RowAt R sz w A xs
theorem Sl.below {α : Type} {R : World → α → List Value → Prop} {sz : Nat} {w w' : World} {v : Value} {xs : List α}
    (h : Sl R sz w v xs) (hb : Below w.heap.size w w') (hR : ∀ x cs, R w x cs → R w' x cs) : Sl R sz w' v xs := by
  obtain ⟨A, c, e, h1, h2, h3, h4⟩ := h
  exact ⟨A, c, e, h1, h2, h3, h4.below hb hR⟩
def IntR (_ : World) (x : Int) (cs : List Value) : Prop := cs = [.int .i64 x]
def BoolR (_ : World) (x : Bool) (cs : List Value) : Prop := cs = [.bool x]
def SrcR (_ : World) (s : TSrc) (cs : List Value) : Prop := cs = [.int .i64 s.k, .int .i64 s.vk, .int .i64 s.vn, .int .i64 s.n]
def OpR (w : World) (o : TOp) (cs : List Value) : Prop := ∃ v, cs = [.int .i64 o.op, v, .int .i64 o.kk, .int .i64 o.c, .int .i64 o.snap] ∧ Sl SrcR 4 w v o.args
def LnkR (w : World) (o : TLnk) (cs : List Value) : Prop := ∃ v, cs = [.int .i64 o.up, .int .i64 o.fn, .int .i64 o.pc, .int .i64 o.into, v] ∧ Sl SrcR 4 w v o.regs
def VrtR (w : World) (o : TVrt) (cs : List Value) : Prop := ∃ v, cs = [.int .i64 o.rc, v] ∧ Sl SrcR 4 w v o.cells
section
variable {w w' : World} (hb : Below w.heap.size w w')
include hb
theorem sl_src_below {v : Value} {xs : List TSrc} (h : Sl SrcR 4 w v xs) : Sl SrcR 4 w' v xs := h.below hb (fun _ _ h => h)
theorem sl_int_below {v : Value} {xs : List Int} (h : Sl IntR 1 w v xs) : Sl IntR 1 w' v xs := h.below hb (fun _ _ h => h)
theorem sl_bool_below {v : Value} {xs : List Bool} (h : Sl BoolR 1 w v xs) : Sl BoolR 1 w' v xs := h.below hb (fun _ _ h => h)
theorem sl_op_below {v : Value} {xs : List TOp} (h : Sl OpR 5 w v xs) : Sl OpR 5 w' v xs := h.below hb (fun _ _ ⟨v, e, h⟩ => ⟨v, e, sl_src_below hb h⟩)
theorem sl_lnk_below {v : Value} {xs : List TLnk} (h : Sl LnkR 5 w v xs) : Sl LnkR 5 w' v xs := h.below hb (fun _ _ ⟨v, e, h⟩ => ⟨v, e, sl_src_below hb h⟩)
theorem sl_vrt_below {v : Value} {xs : List TVrt} (h : Sl VrtR 2 w v xs) : Sl VrtR 2 w' v xs := h.below hb (fun _ _ ⟨v, e, h⟩ => ⟨v, e, sl_src_below hb h⟩)
end

/-- A slice's address and capacity. -/
structure SV where
  A : Option Addr
  c : Nat
/-- A trace with where its lists lie. -/
structure TV where
  t : Trc
  i : SV
  o : SV
  l : SV
  v : SV
  b : SV
def SV.val (s : SV) (n : Nat) : Value := .slice s.A n s.c
def SV.ok {α : Type} (s : SV) (R : World → α → List Value → Prop) (sz : Nat) (w : World) (xs : List α) : Prop :=
  xs.length ≤ s.c ∧ s.c ≤ maxLen ∧ xs.length ≤ 1048576 ∧ RowAt R sz w s.A xs
theorem SV.ok.sl {α : Type} {s : SV} {R : World → α → List Value → Prop} {sz : Nat} {w : World} {xs : List α} (h : s.ok R sz w xs) : Sl R sz w (.slice s.A xs.length s.c) xs :=
  ⟨s.A, s.c, rfl, h.1, h.2.1, h.2.2.1, h.2.2.2⟩
def TV.cells (T : TV) : List Value :=
  [.int .i64 T.t.key.m, .int .i64 T.t.key.n, .int .i64 T.t.key.a0, .int .i64 T.t.key.b0, .int .i64 T.t.key.a1, .int .i64 T.t.key.b1, .int .i64 T.t.key.a2, .int .i64 T.t.key.b2, .int .i64 T.t.key.a3, .int .i64 T.t.key.b3,
   .int .i64 T.t.fn, .int .i64 T.t.pc, .slice T.i.A T.t.ins.length T.i.c, .slice T.o.A T.t.ops.length T.o.c, .slice T.l.A T.t.links.length T.l.c, .slice T.v.A T.t.virts.length T.v.c, .slice T.b.A T.t.back.length T.b.c]
structure TV.ok (T : TV) (w : World) : Prop where
  i : T.i.ok IntR 1 w T.t.ins
  o : T.o.ok OpR 5 w T.t.ops
  l : T.l.ok LnkR 5 w T.t.links
  v : T.v.ok VrtR 2 w T.t.virts
  b : T.b.ok SrcR 4 w T.t.back
theorem TV.ok.below {T : TV} {w w' : World} (h : T.ok w) (hb : Below w.heap.size w w') : T.ok w' where
  i := ⟨h.i.1, h.i.2.1, h.i.2.2.1, h.i.2.2.2.below hb fun _ _ h => h⟩
  o := ⟨h.o.1, h.o.2.1, h.o.2.2.1, h.o.2.2.2.below hb fun _ _ ⟨v, e, h⟩ => ⟨v, e, sl_src_below hb h⟩⟩
  l := ⟨h.l.1, h.l.2.1, h.l.2.2.1, h.l.2.2.2.below hb fun _ _ ⟨v, e, h⟩ => ⟨v, e, sl_src_below hb h⟩⟩
  v := ⟨h.v.1, h.v.2.1, h.v.2.2.1, h.v.2.2.2.below hb fun _ _ ⟨v, e, h⟩ => ⟨v, e, sl_src_below hb h⟩⟩
  b := ⟨h.b.1, h.b.2.1, h.b.2.2.1, h.b.2.2.2.below hb fun _ _ h => h⟩

/-! ### elements -/
section
variable {w : World} {A : Option Addr}
theorem src_get {xs : List TSrc} (h : RowAt SrcR 4 w A xs) {j : Nat} {s : TSrc} (hj : xs[j]? = some s) :
    ∃ b o, A = some ⟨b, o, none⟩ ∧ b < w.heap.size ∧ w.cell? ⟨b, o + j * 4, none⟩ = some (.int .i64 s.k) ∧ w.cell? ⟨b, o + j * 4 + 1, none⟩ = some (.int .i64 s.vk) ∧
      w.cell? ⟨b, o + j * 4 + 2, none⟩ = some (.int .i64 s.vn) ∧ w.cell? ⟨b, o + j * 4 + 3, none⟩ = some (.int .i64 s.n) := by
  obtain ⟨b, o, e, hlt, hx⟩ := h (by have := (List.getElem?_eq_some_iff.1 hj).1; omega)
  obtain ⟨cs, rfl, _, hc⟩ := hx j s hj
  exact ⟨b, o, e, hlt, hc 0 _ rfl, hc 1 _ rfl, hc 2 _ rfl, hc 3 _ rfl⟩
theorem op_get {xs : List TOp} (h : RowAt OpR 5 w A xs) {j : Nat} {s : TOp} (hj : xs[j]? = some s) :
    ∃ b o Aa ca, A = some ⟨b, o, none⟩ ∧ b < w.heap.size ∧ w.cell? ⟨b, o + j * 5, none⟩ = some (.int .i64 s.op) ∧ w.cell? ⟨b, o + j * 5 + 1, none⟩ = some (.slice Aa s.args.length ca) ∧
      w.cell? ⟨b, o + j * 5 + 2, none⟩ = some (.int .i64 s.kk) ∧ w.cell? ⟨b, o + j * 5 + 3, none⟩ = some (.int .i64 s.c) ∧ w.cell? ⟨b, o + j * 5 + 4, none⟩ = some (.int .i64 s.snap) ∧
      SV.ok ⟨Aa, ca⟩ SrcR 4 w s.args := by
  obtain ⟨b, o, e, hlt, hx⟩ := h (by have := (List.getElem?_eq_some_iff.1 hj).1; omega)
  obtain ⟨cs, ⟨v, rfl, Aa, ca, rfl, h1, h2, h3, h4⟩, _, hc⟩ := hx j s hj
  exact ⟨b, o, Aa, ca, e, hlt, hc 0 _ rfl, hc 1 _ rfl, hc 2 _ rfl, hc 3 _ rfl, hc 4 _ rfl, h1, h2, h3, h4⟩
theorem lnk_get {xs : List TLnk} (h : RowAt LnkR 5 w A xs) {j : Nat} {s : TLnk} (hj : xs[j]? = some s) :
    ∃ b o Aa ca, A = some ⟨b, o, none⟩ ∧ b < w.heap.size ∧ w.cell? ⟨b, o + j * 5, none⟩ = some (.int .i64 s.up) ∧ w.cell? ⟨b, o + j * 5 + 1, none⟩ = some (.int .i64 s.fn) ∧
      w.cell? ⟨b, o + j * 5 + 2, none⟩ = some (.int .i64 s.pc) ∧ w.cell? ⟨b, o + j * 5 + 3, none⟩ = some (.int .i64 s.into) ∧ w.cell? ⟨b, o + j * 5 + 4, none⟩ = some (.slice Aa s.regs.length ca) ∧
      SV.ok ⟨Aa, ca⟩ SrcR 4 w s.regs := by
  obtain ⟨b, o, e, hlt, hx⟩ := h (by have := (List.getElem?_eq_some_iff.1 hj).1; omega)
  obtain ⟨cs, ⟨v, rfl, Aa, ca, rfl, h1, h2, h3, h4⟩, _, hc⟩ := hx j s hj
  exact ⟨b, o, Aa, ca, e, hlt, hc 0 _ rfl, hc 1 _ rfl, hc 2 _ rfl, hc 3 _ rfl, hc 4 _ rfl, h1, h2, h3, h4⟩
theorem vrt_get {xs : List TVrt} (h : RowAt VrtR 2 w A xs) {j : Nat} {s : TVrt} (hj : xs[j]? = some s) :
    ∃ b o Aa ca, A = some ⟨b, o, none⟩ ∧ b < w.heap.size ∧ w.cell? ⟨b, o + j * 2, none⟩ = some (.int .i64 s.rc) ∧ w.cell? ⟨b, o + j * 2 + 1, none⟩ = some (.slice Aa s.cells.length ca) ∧
      SV.ok ⟨Aa, ca⟩ SrcR 4 w s.cells := by
  obtain ⟨b, o, e, hlt, hx⟩ := h (by have := (List.getElem?_eq_some_iff.1 hj).1; omega)
  obtain ⟨cs, ⟨v, rfl, Aa, ca, rfl, h1, h2, h3, h4⟩, _, hc⟩ := hx j s hj
  exact ⟨b, o, Aa, ca, e, hlt, hc 0 _ rfl, hc 1 _ rfl, h1, h2, h3, h4⟩
theorem int_get {xs : List Int} (h : RowAt IntR 1 w A xs) {j : Nat} {s : Int} (hj : xs[j]? = some s) :
    ∃ b o, A = some ⟨b, o, none⟩ ∧ b < w.heap.size ∧ w.cell? ⟨b, o + j, none⟩ = some (.int .i64 s) := by
  obtain ⟨b, o, e, hlt, hx⟩ := h (by have := (List.getElem?_eq_some_iff.1 hj).1; omega)
  obtain ⟨cs, rfl, _, hc⟩ := hx j s hj
  rw [Nat.mul_one] at hc
  exact ⟨b, o, e, hlt, hc 0 _ rfl⟩
theorem bool_get {xs : List Bool} (h : RowAt BoolR 1 w A xs) {j : Nat} {s : Bool} (hj : xs[j]? = some s) :
    ∃ b o, A = some ⟨b, o, none⟩ ∧ b < w.heap.size ∧ w.cell? ⟨b, o + j, none⟩ = some (.bool s) := by
  obtain ⟨b, o, e, hlt, hx⟩ := h (by have := (List.getElem?_eq_some_iff.1 hj).1; omega)
  obtain ⟨cs, rfl, _, hc⟩ := hx j s hj
  rw [Nat.mul_one] at hc
  exact ⟨b, o, e, hlt, hc 0 _ rfl⟩
end

/-! ### worlds -/
theorem below_drewN {B : Nat} {w W : World} (h : Below B w W) (n : Nat) : Below B w (W.drewN n) := ⟨h.os, h.tape, h.output, h.size, h.block⟩
theorem below_alloc {w W : World} (h : Below w.heap.size w W) (o : Obj) : Below w.heap.size w (W.alloc o) := h.alloc h.size o
theorem below_then {w w1 w2 : World} (h : Below w.heap.size w w1) (k : Below w1.heap.size w1 w2) : Below w.heap.size w w2 := h.trans (k.mono h.size)
theorem cell_alloc {w : World} {b o : Nat} {v : Value} (h : w.cell? ⟨b, o, none⟩ = some v) (x : Obj) : (w.alloc x).cell? ⟨b, o, none⟩ = some v := by
  have hb := World.block_lt_of_cell? w _ h
  exact (((Below.refl w.heap.size w).alloc (Nat.le_refl _) x).cell hb).trans h
theorem cell_later {w w' : World} (hb : Below w.heap.size w w') {b o : Nat} {v : Value} (h : w.cell? ⟨b, o, none⟩ = some v) : w'.cell? ⟨b, o, none⟩ = some v :=
  (hb.cell (World.block_lt_of_cell? w _ h)).trans h
theorem lt_of_cell {w : World} {b o : Nat} {v : Value} (h : w.cell? ⟨b, o, none⟩ = some v) : b < w.heap.size := World.block_lt_of_cell? w _ h
theorem bcell {W w1 : World} (hb : Below W.heap.size W w1) : (∀ b o, b < W.heap.size → w1.cell? ⟨b, o, none⟩ = W.cell? ⟨b, o, none⟩) ∧ (∀ b o, b < W.heap.size → w1.frozen? ⟨b, o, none⟩ = W.frozen? ⟨b, o, none⟩) :=
  ⟨fun b o h => hb.cell (p := ⟨b, o, none⟩) h, fun b o h => hb.frozen (p := ⟨b, o, none⟩) h⟩
theorem ret_bool {a b : Bool} (h : a = b) : Ending.returned (.bool a) = .returned (.bool b) := by rw [h]
theorem ret_int {k : IntKind} {a b : Int} (h : a = b) : Ending.returned (.int k a) = .returned (.int k b) := by rw [h]

end Go.Proofs.Ytjcfppbahalgbaa
