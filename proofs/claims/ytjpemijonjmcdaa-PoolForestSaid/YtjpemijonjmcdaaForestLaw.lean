/- PoolForest, plain: what is below a node, how many roots there are, the marks as numbers. -/
import Derived.Test.YtjpemijonjmcdaaPoolHeightLaw
import Derived.Test.YtjpemijonjmcdaaStackRoots
namespace Go.Proofs.Ytjpemijonjmcdaa
open Go.RowKit
set_option linter.unusedVariables false

theorem right_may {ns : List Nd} (h : rightL [] ns = true) (i : Nat) (hlt : i < ns.length) : mayB (ns.getD i Nd.zero).k (ns.getD i Nd.zero).l (ns.getD i Nd.zero).r (ksFrom [] (ns.take i)) = true := by
  cases e : mayB (ns.getD i Nd.zero).k (ns.getD i Nd.zero).l (ns.getD i Nd.zero).r (ksFrom [] (ns.take i)) with
  | true => rfl
  | false => rw [rightL_no ns i hlt e] at h; cases h
theorem below_cons {ns : List Nd} (h : rightL [] ns = true) (i : Nat) (hlt : i < ns.length) : below ns (i : Int) = (i : Int) :: (ns.getD i Nd.zero).kids.flatMap (below ns) := by
  rw [kids_flat]
  have := ent_eq (right_kidsOk h) (fun _ => true) (i : Int) (by omega) (by omega)
  simpa [below, nd] using this
theorem roots_count {ns : List Nd} (h : rightL [] ns = true) : ∀ i, i ≤ ns.length → (rootsL (ksFrom [] (ns.take i))).length + ((ns.take i).flatMap Nd.kids).length = i := by
  intro i
  induction i with
  | zero => intro _; simp [rootsL, ksFrom, rangeI]
  | succ i ih =>
    intro hi
    have hlt : i < ns.length := by omega
    have ih' := ih (by omega)
    have hm := right_may h i hlt
    rw [take_snoc' ns i hlt, ksFrom_snoc, roots_step _ _ hm, List.flatMap_append]
    generalize ns.getD i Nd.zero = n at *
    have hr : ((rootsL (ksFrom [] (ns.take i))).filter (fun x => !(n.kids.contains x)) ++ n.kids).Perm (rootsL (ksFrom [] (ns.take i))) := by
      have p1 := List.filter_append_perm (fun x => n.kids.contains x) (rootsL (ksFrom [] (ns.take i)))
      have p2 : ((rootsL (ksFrom [] (ns.take i))).filter (fun x => n.kids.contains x)).Perm n.kids := by
        refine (List.perm_ext_iff_of_nodup ((List.filter_sublist).nodup (nodup_rootsL _)) (may_nodup hm)).2 fun a => ?_
        rw [List.mem_filter]
        simp only [List.contains_iff_mem]
        exact ⟨fun h => h.2, fun h => ⟨may_roots hm a h, h⟩⟩
      exact ((List.Perm.append_left _ p2.symm).trans List.perm_append_comm).trans p1
    have hl := hr.length_eq
    simp only [List.length_append, List.flatMap_cons, List.flatMap_nil, List.append_nil, List.length_cons, List.length_nil] at hl ⊢
    omega
theorem roots_sorted (ks : List Bool) (q : Nat) (h0 : 0 < q) (h : q < (rootsL ks).length) : (rootsL ks)[q - 1]'(by omega) < (rootsL ks)[q] := by
  have hp : (rangeI ks.length).Pairwise (· < ·) := by
    unfold rangeI
    rw [List.pairwise_map]
    exact List.pairwise_lt_range.imp fun h => by omega
  have hp' : (rootsL ks).Pairwise (· < ·) := hp.filter _
  exact List.pairwise_iff_getElem.1 hp' (q - 1) q (by omega) h (by omega)
def b2i (b : Bool) : Int := if b then 1 else 0
def marksI (n : Nat) (V : List Int) : List Int := (markL (List.replicate n false) V).map b2i
theorem marksI_nil (n : Nat) : marksI n [] = List.replicate n 0 := by unfold marksI markL; simp [b2i]
theorem marksI_len (n : Nat) (V : List Int) : (marksI n V).length = n := by unfold marksI; rw [List.length_map, markL_len]; simp
theorem marksI_snoc (n : Nat) (V : List Int) (k : Int) : (marksI n V).set k.toNat 1 = marksI n (V ++ [k]) := by
  unfold marksI; rw [markL_snoc, List.map_set]; rfl
theorem marksI_at (n : Nat) (V : List Int) (k : Int) (h0 : 0 ≤ k) (h1 : k < n) (hV : ∀ y ∈ V, 0 ≤ y) : (marksI n V)[k.toNat]? = some (b2i (V.contains k)) := by
  have h2 := seen_get n V k h0 h1 hV
  unfold marksI
  have hlm : (markL (List.replicate n false) V).length = n := by rw [markL_len]; simp
  rw [List.getD_eq_getElem?_getD, List.getElem?_eq_getElem (by omega)] at h2
  rw [List.getElem?_map, List.getElem?_eq_getElem (by omega), Option.map_some]
  simp only [Option.getD_some] at h2
  rw [h2]
theorem len_flat {ns : List Nd} (h : rightL [] ns = true) : ∀ st : List Int, (∀ x ∈ st, 0 ≤ x ∧ x < ns.length) → st.length ≤ (st.flatMap (below ns)).length := by
  intro st
  induction st with
  | nil => intro _; simp
  | cons x st ih =>
    intro hs
    have hx := hs x (by simp)
    have h1 := ih (fun y hy => hs y (List.mem_cons_of_mem _ hy))
    have h2 := below_cons h x.toNat (by omega)
    rw [show ((x.toNat : Nat) : Int) = x by omega] at h2
    rw [List.flatMap_cons, h2]
    simp only [List.length_append, List.length_cons]
    omega
/-- The walk's account: what was entered, what is below the stack, the rest. -/
theorem perm_pop {ns : List Nd} (h : rightL [] ns = true) {V st T whole : List Int} {k : Int} (h0 : 0 ≤ k) (h1 : k < ns.length) (hp : (V ++ ((st ++ [k]).flatMap (below ns) ++ T)).Perm whole) :
    ((V ++ [k]) ++ ((st ++ (ns.getD k.toNat Nd.zero).kids).flatMap (below ns) ++ T)).Perm whole := by
  refine List.Perm.trans ?_ hp
  have h2 := below_cons h k.toNat (by omega)
  rw [show ((k.toNat : Nat) : Int) = k by omega] at h2
  rw [List.flatMap_append, List.flatMap_append, List.flatMap_cons, List.flatMap_nil, List.append_nil, h2, List.append_assoc V]
  refine List.Perm.append_left V ?_
  rw [← List.append_assoc]
  refine List.Perm.append_right T ?_
  refine List.Perm.trans ?_ (List.perm_middle).symm
  exact List.Perm.refl _
theorem perm_len {V S T : List Int} {n : Nat} (hp : (V ++ (S ++ T)).Perm (rangeI n)) : V.length + S.length ≤ n := by
  have h := hp.length_eq
  unfold rangeI at h
  simp only [List.length_append, List.length_map, List.length_range] at h
  omega
theorem perm_in {V S T : List Int} {n : Nat} {k : Int} (hp : (V ++ (S ++ T)).Perm (rangeI n)) (hk : k ∈ S) : 0 ≤ k ∧ k < n ∧ V.contains k = false ∧ ∀ y ∈ V, 0 ≤ y := by
  have hm := mem_rangeI.1 (hp.mem_iff.1 (List.mem_append_right V (List.mem_append_left T hk)))
  have hnd : (V ++ (S ++ T)).Nodup := hp.nodup_iff.2 (nodup_rangeI n)
  rw [List.nodup_append] at hnd
  refine ⟨hm.1, hm.2, ?_, fun y hy => (mem_rangeI.1 (hp.mem_iff.1 (List.mem_append_left _ hy))).1⟩
  cases e : V.contains k with
  | false => rfl
  | true => exact absurd rfl (hnd.2.2 k (by simpa using e) k (List.mem_append_left T hk))
end Go.Proofs.Ytjpemijonjmcdaa
