/- Structs of integers compared: plain lemmas over the model's own word. -/
import Derived.Test.YtmfkpjafeaidkaaBase
import Derived.Laws.StructEq
namespace Go.Proofs.Ytmfkpjafeaidkaa
open Go.RowKit
set_option linter.unusedVariables false

/-- The fields are integers, in the cells that are named. -/
def IntFields (P : Program) (xs ys : Array Value) : List Field → List (IntKind × Int × Int) → Prop
  | [], [] => True
  | f :: fs, (k, a, b) :: ks => f.name ≠ "_" ∧ P.underlying f.type = some (.int k) ∧ xs[f.offset]? = some (.int k a) ∧ ys[f.offset]? = some (.int k b) ∧ IntFields P xs ys fs ks
  | _, _ => False
theorem run_part_int {P : Program} (w : World) (t : TypeId) (k : IntKind) (xs : Array Value) (off : Nat) (v : Value) (ht : P.underlying t = some (.int k)) (h : xs[off]? = some v) : (part t xs off).run P w = .ok v w := by
  simp [part, isAgg, run_underlying ht, h]
theorem eq_ints {P : Program} (d : Nat) (xs ys : Array Value) : ∀ (fs : List Field) (ks : List (IntKind × Int × Int)), IntFields P xs ys fs ks → ∀ w, (Op.eqFields (d + 1) xs ys fs).run P w = .ok (ks.all fun x => x.2.1 == x.2.2) w
  | [], [], _, w => by simp [Op.eqFields]
  | f :: fs, (k, a, b) :: ks, ⟨hn, hu, hx, hy, hr⟩, w => by
    have ih := eq_ints d xs ys fs ks hr w
    have h1 := run_part_int w f.type k xs f.offset _ hu hx
    have h2 := run_part_int w f.type k ys f.offset _ hu hy
    have h3 := run_equalIn_int (P := P) w d f.type k k a b hu
    cases e : (a == b) <;> simp [Op.eqFields, hn, h1, h2, h3, e, ih, Result.andThen]
  | [], _ :: _, h, w => h.elim
  | _ :: _, [], h, w => h.elim
theorem eql_ints {P : Program} (t : TypeId) (fs : Array Field) (ht : P.underlying t = some (.struct fs)) (hp : P.stoodInHeld t = false) (xs ys : Array Value) (ks : List (IntKind × Int × Int)) (h : IntFields P xs ys fs.toList ks) (w : World) :
    (binOp .eql t (.agg xs) (.agg ys)).run P w = .ok (.bool (ks.all fun x => x.2.1 == x.2.2)) w := by
  have hf : P.fieldsOf t = fs := by unfold Program.fieldsOf; rw [ht]
  have h1 := run_equalIn_agg (P := P) w 9999 t xs ys (by rw [hf]; exact ht) hp
  rw [hf, eq_ints 9998 xs ys _ ks h w] at h1
  rw [run_eql_struct, h1]; rfl
theorem neq_ints {P : Program} (t : TypeId) (fs : Array Field) (ht : P.underlying t = some (.struct fs)) (hp : P.stoodInHeld t = false) (xs ys : Array Value) (ks : List (IntKind × Int × Int)) (h : IntFields P xs ys fs.toList ks) (w : World) :
    (binOp .neq t (.agg xs) (.agg ys)).run P w = .ok (.bool (!(ks.all fun x => x.2.1 == x.2.2))) w := by
  have hf : P.fieldsOf t = fs := by unfold Program.fieldsOf; rw [ht]
  have h1 := run_equalIn_agg (P := P) w 9999 t xs ys (by rw [hf]; exact ht) hp
  rw [hf, eq_ints 9998 xs ys _ ks h w] at h1
  rw [run_neq_struct, h1]; rfl
end Go.Proofs.Ytmfkpjafeaidkaa
