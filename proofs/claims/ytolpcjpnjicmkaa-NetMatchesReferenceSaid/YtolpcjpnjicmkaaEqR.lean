/-
  Net: '==' between two answers.
-/
import Derived.Test.YtolpcjpnjicmkaaNet9
import Derived.DeepKeys
set_option linter.unusedSimpArgs false
set_option linter.unusedVariables false
namespace Go.Proofs.Ytolpcjpnjicmkaa
open Go.RowKit Go.CH
theorem eqStr {P : Program} {E : TypeId} (hE : P.underlying E = some .string) (a b : ByteArray) (n : Nat) (w : World) : (Op.equalIn (n + 1) E (.string a) (.string b)).run P w = .ok (a == b) w := by
  simp [Op.equalIn, run_underlying hE]
theorem eqBool {P : Program} {E : TypeId} (hE : P.underlying E = some .bool) (a b : Bool) (n : Nat) (w : World) : (Op.equalIn (n + 1) E (.bool a) (.bool b)).run P w = .ok (a == b) w := by
  simp [Op.equalIn, run_underlying hE]
theorem run_equal_res (a : Int) (b : ByteArray) (c : Bool) (a' : Int) (b' : ByteArray) (c' : Bool) (w : World) :
    (Op.equal 42 (.agg #[.int .i64 a, .string b, .bool c]) (.agg #[.int .i64 a', .string b', .bool c'])).run Try.prog w = .ok (a == a' && (b == b' && c == c')) w := by
  have p := fun cs j v hv w => partPlain (P := Try.prog) Try.underlying26 rfl cs j v hv w
  have q := fun cs j v hv w => partPlain (P := Try.prog) Try.underlying9 rfl cs j v hv w
  have r := fun cs j v hv w => partPlain (P := Try.prog) Try.underlying4 rfl cs j v hv w
  rw [Op.equal, Op.maxDepth, run_equalIn_struct w 9999 42 _ _ (by rfl) (by kernel_rfl)]
  have hf : (Try.prog.fieldsOf 42).toList.map (fun f => (f.name == "_", f.type, f.offset)) = [(false, 26, 0), (false, 9, 1), (false, 4, 2)] := by kernel_rfl
  obtain ⟨f0, f1, f2, hl⟩ : ∃ f0 f1 f2, (Try.prog.fieldsOf 42).toList = [f0, f1, f2] := by
    have hlen := congrArg List.length hf
    rw [List.length_map] at hlen
    generalize (Try.prog.fieldsOf 42).toList = l at hlen
    match l, hlen with
    | [f0, f1, f2], _ => exact ⟨f0, f1, f2, rfl⟩
  rw [hl] at hf ⊢
  simp only [List.map_cons, List.map_nil, List.cons.injEq, Prod.mk.injEq, and_true, beq_eq_false_iff_ne] at hf
  obtain ⟨⟨n0, t0, o0⟩, ⟨n1, t1, o1⟩, ⟨n2, t2, o2⟩⟩ := hf
  have h1 : (Op.equalIn 9999 26 (.int .i64 a) (.int .i64 a')).run Try.prog w = .ok (a == a') w := eqInt Try.underlying26 a a' 9998 w
  have h2 : (Op.equalIn 9999 9 (.string b) (.string b')).run Try.prog w = .ok (b == b') w := eqStr Try.underlying9 b b' 9998 w
  have h3 : (Op.equalIn 9999 4 (.bool c) (.bool c')).run Try.prog w = .ok (c == c') w := eqBool Try.underlying4 c c' 9998 w
  have g0 := p #[.int .i64 a, .string b, .bool c] 0 (.int .i64 a) rfl w
  have g1 := p #[.int .i64 a', .string b', .bool c'] 0 (.int .i64 a') rfl w
  have g2 := q #[.int .i64 a, .string b, .bool c] 1 (.string b) rfl w
  have g3 := q #[.int .i64 a', .string b', .bool c'] 1 (.string b') rfl w
  have g4 := r #[.int .i64 a, .string b, .bool c] 2 (.bool c) rfl w
  have g5 := r #[.int .i64 a', .string b', .bool c'] 2 (.bool c') rfl w
  simp only [Op.eqFields, n0, n1, n2, ne_eq, not_false_eq_true, if_true, Sem.run_bind, t0, o0, t1, o1, t2, o2, g0, g1, Result.andThen_ok, h1]
  cases (a == a')
  · simp
  · simp only [Bool.not_true, Bool.false_eq_true, if_false, Sem.run_bind, g2, g3, Result.andThen_ok, h2]
    cases (b == b')
    · simp
    · simp only [Bool.not_true, Bool.false_eq_true, if_false, Sem.run_bind, g4, g5, Result.andThen_ok, h3]
      cases (c == c') <;> simp
theorem run_neq_res (a : Int) (b : ByteArray) (c : Bool) (a' : Int) (b' : ByteArray) (c' : Bool) (w : World) :
    (binOp .neq 42 (.agg #[.int .i64 a, .string b, .bool c]) (.agg #[.int .i64 a', .string b', .bool c'])).run Try.prog w = .ok (.bool (!(a == a' && (b == b' && c == c')))) w := by
  simp only [binOp, Sem.run_bind, Sem.run_map, run_equal_res, Result.andThen_ok, Sem.run_pure]
theorem run_neq_res_self (a : Int) (b : ByteArray) (c : Bool) (w : World) :
    (binOp .neq 42 (.agg #[.int .i64 a, .string b, .bool c]) (.agg #[.int .i64 a, .string b, .bool c])).run Try.prog w = .ok (.bool false) w := by
  rw [run_neq_res, beq_toListBytes]; simp
end Go.Proofs.Ytolpcjpnjicmkaa
