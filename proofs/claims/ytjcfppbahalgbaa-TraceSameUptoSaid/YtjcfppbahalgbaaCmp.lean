/- '==' of sources and of keys. -/
import Derived.Test.YtjcfppbahalgbaaWEqStruct
import Derived.ChangeKeysEq
import Derived.Test.YtjcfppbahalgbaaSize
namespace Go.Proofs.Ytjcfppbahalgbaa
open Go.RowKit
open Go.Proofs.YtjcfppbahalgbaaW.PrintWords (eqf_cons eqf_last eqf_nil eqA_of)
set_option linter.unusedSimpArgs false
set_option linter.unusedVariables false
theorem eqI3 (d : Nat) (a b : Int) (w : World) : (Op.equalIn (d + 1) 3 (.int .i64 a) (.int .i64 b)).run Try.prog w = .ok (a == b) w := by
  simp [Op.equalIn, Sem.run_bind, run_underlying Try.underlying3]
theorem eqI2 (d : Nat) (a b : Int) (w : World) : (Op.equalIn (d + 1) 2 (.int .i64 a) (.int .i64 b)).run Try.prog w = .ok (a == b) w := by
  simp [Op.equalIn, Sem.run_bind, run_underlying Try.underlying2]
theorem eq23 (d : Nat) (a b a' b' : Int) (w : World) : (Op.equalIn (d + 2) 23 (.agg #[.int .i64 a, .int .i64 b]) (.agg #[.int .i64 a', .int .i64 b'])).run Try.prog w = .ok (a == a' && b == b') w :=
  eqA_of (d := d + 1) Try.underlying23 (by kernel_rfl) (eqf_cons rfl (by kernel_rfl) (by kernel_rfl) (eqI3 d a a' w) (eqf_last rfl (by kernel_rfl) (by kernel_rfl) (eqI2 d b b' w)))
theorem eq63 (d : Nat) (a b c e a' b' c' e' : Int) (w : World) : (Op.equalIn (d + 3) 63 (.agg #[.int .i64 a, .int .i64 b, .int .i64 c, .int .i64 e]) (.agg #[.int .i64 a', .int .i64 b', .int .i64 c', .int .i64 e'])).run Try.prog w = .ok (a == a' && ((b == b' && c == c') && e == e')) w :=
  eqA_of (d := d + 2) Try.underlying63 (by kernel_rfl) (eqf_cons rfl (by kernel_rfl) (by kernel_rfl) (eqI3 (d + 1) a a' w) (eqf_cons rfl (by kernel_rfl) (by kernel_rfl) (eq23 d b c b' c' w) (eqf_last rfl (by kernel_rfl) (by kernel_rfl) (eqI3 (d + 1) e e' w))))
theorem eqi_cons {P : Program} {d c i : Nat} {e : TypeId} {xs ys : Array Value} {is : List Nat} {a b : Value} {r s : Bool} {w : World} (ha : (part e xs (i * c)).run P w = .ok a w) (hb : (part e ys (i * c)).run P w = .ok b w)
    (he : (Op.equalIn d e a b).run P w = .ok r w) (hr : (Op.eqItems d e c xs ys is).run P w = .ok s w) : (Op.eqItems d e c xs ys (i :: is)).run P w = .ok (r && s) w := by
  rw [Op.eqItems]
  simp only [Sem.run_bind, ha, hb, he, Result.andThen_ok]
  cases r
  · simp
  · simpa using hr
theorem eqi_nil {P : Program} {d c : Nat} {e : TypeId} {xs ys : Array Value} {w : World} : (Op.eqItems d e c xs ys []).run P w = .ok true w := by simp [Op.eqItems]
theorem info23 : Try.prog.info? 23 = some ((Try.prog.info? 23).getD default) := by kernel_rfl
theorem cells23 : Try.prog.cellsOf 23 = 2 := by kernel_rfl
def keyCs (k : TKey) : List Value := [.int .i64 k.m, .int .i64 k.n, .int .i64 k.a0, .int .i64 k.b0, .int .i64 k.a1, .int .i64 k.b1, .int .i64 k.a2, .int .i64 k.b2, .int .i64 k.a3, .int .i64 k.b3]
def valCs (k : TKey) : List Value := [.int .i64 k.a0, .int .i64 k.b0, .int .i64 k.a1, .int .i64 k.b1, .int .i64 k.a2, .int .i64 k.b2, .int .i64 k.a3, .int .i64 k.b3]
set_option maxRecDepth 100000 in
theorem eq24 (d : Nat) (k l : TKey) (w : World) : (Op.equalIn (d + 3) 24 (.agg (valCs k).toArray) (.agg (valCs l).toArray)).run Try.prog w =
    .ok ((k.a0 == l.a0 && k.b0 == l.b0) && ((k.a1 == l.a1 && k.b1 == l.b1) && ((k.a2 == l.a2 && k.b2 == l.b2) && ((k.a3 == l.a3 && k.b3 == l.b3) && true)))) w := by
  obtain ⟨k0, k1, k2, k3, k4, k5, k6, k7, k8, k9⟩ := k
  obtain ⟨l0, l1, l2, l3, l4, l5, l6, l7, l8, l9⟩ := l
  rw [run_equalIn_array (d := d + 2) (hu := Try.underlying24) (hi := info23), cells23]
  simp only [List.range, List.range.loop]
  exact eqi_cons (by kernel_rfl) (by kernel_rfl) (eq23 d _ _ _ _ w) (eqi_cons (by kernel_rfl) (by kernel_rfl) (eq23 d _ _ _ _ w) (eqi_cons (by kernel_rfl) (by kernel_rfl) (eq23 d _ _ _ _ w) (eqi_cons (by kernel_rfl) (by kernel_rfl) (eq23 d _ _ _ _ w) eqi_nil)))
set_option maxRecDepth 100000 in
theorem eq26 (d : Nat) (k l : TKey) (w : World) : (Op.equalIn (d + 4) 26 (.agg (keyCs k).toArray) (.agg (keyCs l).toArray)).run Try.prog w = .ok (decide (k = l)) w := by
  have h : (Op.equalIn (d + 4) 26 (.agg (keyCs k).toArray) (.agg (keyCs l).toArray)).run Try.prog w =
      .ok (k.m == l.m && (k.n == l.n && ((k.a0 == l.a0 && k.b0 == l.b0) && ((k.a1 == l.a1 && k.b1 == l.b1) && ((k.a2 == l.a2 && k.b2 == l.b2) && ((k.a3 == l.a3 && k.b3 == l.b3) && true)))))) w := by
    have h24 := eq24 d k l w
    obtain ⟨k0, k1, k2, k3, k4, k5, k6, k7, k8, k9⟩ := k
    obtain ⟨l0, l1, l2, l3, l4, l5, l6, l7, l8, l9⟩ := l
    exact eqA_of (d := d + 3) Try.underlying26 (by kernel_rfl) (eqf_cons rfl (by kernel_rfl) (by kernel_rfl) (eqI3 (d + 2) _ _ w) (eqf_cons rfl (by kernel_rfl) (by kernel_rfl) (eqI3 (d + 2) _ _ w) (eqf_last rfl (by kernel_rfl) (by kernel_rfl) h24)))
  rw [h]
  congr 1
  obtain ⟨k0, k1, k2, k3, k4, k5, k6, k7, k8, k9⟩ := k
  obtain ⟨l0, l1, l2, l3, l4, l5, l6, l7, l8, l9⟩ := l
  rw [Bool.eq_iff_iff]
  simp only [Bool.and_eq_true, beq_iff_eq, decide_eq_true_eq, TKey.mk.injEq, and_true]
  constructor
  · rintro ⟨a, b, ⟨c, d⟩, ⟨e, f⟩, ⟨g, h⟩, i, j⟩; exact ⟨a, b, c, d, e, f, g, h, i, j⟩
  · rintro ⟨a, b, c, d, e, f, g, h, i, j⟩; exact ⟨a, b, ⟨c, d⟩, ⟨e, f⟩, ⟨g, h⟩, i, j⟩
set_option maxRecDepth 100000 in
theorem eqSrc (s s' : TSrc) (w : World) : (Op.equal 63 (.agg (srcCs s)) (.agg (srcCs s'))).run Try.prog w = .ok (decide (s = s')) w := by
  have h := eq63 9997 s.k s.vk s.vn s.n s'.k s'.vk s'.vn s'.n w
  refine (show _ = _ from h).trans ?_
  congr 1
  obtain ⟨a, b, c, d⟩ := s
  obtain ⟨a', b', c', d'⟩ := s'
  rw [Bool.eq_iff_iff]
  simp only [Bool.and_eq_true, beq_iff_eq, decide_eq_true_eq, TSrc.mk.injEq]
  constructor
  · rintro ⟨a, ⟨b, c⟩, d⟩; exact ⟨a, b, c, d⟩
  · rintro ⟨a, b, c, d⟩; exact ⟨a, ⟨b, c⟩, d⟩
set_option maxRecDepth 100000 in
theorem eqKey (k l : TKey) (w : World) : (Op.equal 26 (.agg (keyCs k).toArray) (.agg (keyCs l).toArray)).run Try.prog w = .ok (decide (k = l)) w := eq26 9996 k l w
theorem guard63 (b : BinOp) (x y : Operand) (A B : Array Value) (w : World) : (eqGuard b 63 x y (.agg A) (.agg B)).run Try.prog w = .ok () w := by
  cases b <;> kernel_rfl
theorem guard26 (b : BinOp) (x y : Operand) (A B : Array Value) (w : World) : (eqGuard b 26 x y (.agg A) (.agg B)).run Try.prog w = .ok () w := by
  cases b <;> kernel_rfl
theorem exec_neq63 {o : Oper} {ac : Act} {w : World} (x y : Operand) (t : TypeId) (ho : o.op = .binOp .neq 63 x y t) (s s' : TSrc) (hx : ac.eval x = .agg (srcCs s)) (hy : ac.eval y = .agg (srcCs s')) :
    (execOp ac.eval o).run Try.prog w = .ok (.value (.bool (!decide (s = s')))) w := by
  unfold execOp
  simp only [ho, hx, hy, Sem.run_bind, guard63, Result.andThen_ok, binOp, eqSrc, Sem.run_pure]
theorem exec_neq26 {o : Oper} {ac : Act} {w : World} (x y : Operand) (t : TypeId) (ho : o.op = .binOp .neq 26 x y t) (k l : TKey) (hx : ac.eval x = .agg (keyCs k).toArray) (hy : ac.eval y = .agg (keyCs l).toArray) :
    (execOp ac.eval o).run Try.prog w = .ok (.value (.bool (!decide (k = l)))) w := by
  unfold execOp
  simp only [ho, hx, hy, Sem.run_bind, guard26, Result.andThen_ok, binOp, eqKey, Sem.run_pure]
theorem exec_eql26 {o : Oper} {ac : Act} {w : World} (x y : Operand) (t : TypeId) (ho : o.op = .binOp .eql 26 x y t) (k l : TKey) (hx : ac.eval x = .agg (keyCs k).toArray) (hy : ac.eval y = .agg (keyCs l).toArray) :
    (execOp ac.eval o).run Try.prog w = .ok (.value (.bool (decide (k = l)))) w := by
  unfold execOp
  simp only [ho, hx, hy, Sem.run_bind, guard26, Result.andThen_ok, binOp, eqKey, Sem.run_pure]
end Go.Proofs.Ytjcfppbahalgbaa
