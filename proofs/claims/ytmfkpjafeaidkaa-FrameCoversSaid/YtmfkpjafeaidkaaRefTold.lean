/- The contracts of gridironref07.told and Leaves. -/
import Derived.Test.YtmfkpjafeaidkaaRefBelow
namespace Go.Proofs.Ytmfkpjafeaidkaa
open Go.RowKit
set_option linter.unusedVariables false

theorem right_leaf {ns : List Nd} (h : rightL [] ns = true) (x : Int) (h0 : 0 ≤ x) (hx : x < ns.length) (hk : (nd ns x).k = 1) : (nd ns x).l = -1 ∧ (nd ns x).r = -1 := by
  have hlt : x.toNat < ns.length := by omega
  have hm : mayB (nd ns x).k (nd ns x).l (nd ns x).r (ksFrom [] (ns.take x.toNat)) = true := by
    cases e : mayB (nd ns x).k (nd ns x).l (nd ns x).r (ksFrom [] (ns.take x.toNat)) with
    | true => rfl
    | false => rw [rightL_no ns x.toNat hlt e] at h; cases h
  unfold mayB at hm
  rw [if_pos hk] at hm
  simp only [Bool.and_eq_true, List.isEmpty_iff] at hm
  have := hm.2
  unfold kidsL at this
  by_cases hL : (nd ns x).l = -1 <;> by_cases hR : (nd ns x).r = -1 <;> simp_all

/-- What is told of a place. -/
def tOut (ns : List Nd) (a b : Int) (x : Int) : List Int := toldL ns a b (ent ns (overB ns a b) x)
def tCnt (ns : List Nd) (a b : Int) (x : Int) : Nat := (ent ns (overB ns a b) x).length
theorem t_neg (ns : List Nd) (a b x : Int) (h : x < 0) : tOut ns a b x = [] ∧ tCnt ns a b x = 0 := by unfold tOut tCnt; rw [ent_neg _ _ _ h]; exact ⟨rfl, rfl⟩
theorem t_no {ns : List Nd} (hk : KidsOk ns) (a b x : Int) (h0 : 0 ≤ x) (hx : x < ns.length) (hd : overB ns a b x = false) : tOut ns a b x = [] ∧ tCnt ns a b x = 1 := by
  unfold tOut tCnt; rw [ent_eq hk _ x h0 hx, hd]; simp [toldL, toldOne, hd]
theorem t_leaf {ns : List Nd} (h : rightL [] ns = true) (a b x : Int) (h0 : 0 ≤ x) (hx : x < ns.length) (hd : overB ns a b x = true) (hk : (nd ns x).k = 1) : tOut ns a b x = [(nd ns x).f] ∧ tCnt ns a b x = 1 := by
  obtain ⟨h1, h2⟩ := right_leaf h x h0 hx hk
  unfold tOut tCnt; rw [ent_eq (right_kidsOk h) _ x h0 hx, hd, h1, h2, ent_neg _ _ _ (by omega)]; simp [toldL, toldOne, hd, hk]
theorem t_inner {ns : List Nd} (hk : KidsOk ns) (a b x : Int) (h0 : 0 ≤ x) (hx : x < ns.length) (hd : overB ns a b x = true) (hn : (nd ns x).k ≠ 1) :
    tOut ns a b x = tOut ns a b (nd ns x).l ++ tOut ns a b (nd ns x).r ∧ tCnt ns a b x = 1 + tCnt ns a b (nd ns x).l + tCnt ns a b (nd ns x).r := by
  unfold tOut tCnt; rw [ent_eq hk _ x h0 hx, hd]
  simp only [if_true, List.length_cons, List.length_append]
  refine ⟨?_, by omega⟩
  unfold toldL
  rw [List.flatMap_cons, List.flatMap_append]
  have : toldOne ns a b x = [] := by unfold toldOne; rw [if_neg (fun h => hn h.2)]
  rw [this]; rfl
theorem t_len (ns : List Nd) (a b x : Int) : (tOut ns a b x).length ≤ tCnt ns a b x := toldL_len _ _ _ _

def ToldP (out : List Int) (n : Int) (w : World) (e : Ending) (w' : World) : Prop :=
  ∃ a c, e = .returned (.tuple #[.slice a out.length c, .int .i64 n]) ∧ w'.ownsRow w.heap.size 3 1 (.slice a out.length c) out.length (out.map (.int .i64)) ∧ Below w.heap.size w w'

end Go.Proofs.Ytmfkpjafeaidkaa
