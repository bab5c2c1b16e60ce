/- The contract of gridironref06.Path; a path by halves is what the document tells by counting. -/
import Derived.Test.YtmfkpjafeaidkaaTreeLaws
import Derived.Test.YtmfkpjafeaidkaaPath
namespace Go.Proofs.Ytmfkpjafeaidkaa
open Go.RowKit
set_option linter.unusedVariables false
set_option linter.unusedSimpArgs false

/-- Is a place over a leaf? -/
def onB (ns : List Nd) (leaf x : Int) : Bool := decide ((nd ns x).f ≤ leaf) && decide (leaf < (nd ns x).t)
/-- What is told of the places from j on, the last one first. -/
def refDown (ns : List Nd) (leaf : Int) (j : Nat) : List Int := (((rangeI ns.length).drop j).reverse).filter (onB ns leaf)
theorem refDown_step (ns : List Nd) (leaf : Int) (j : Nat) (h : j < ns.length) : refDown ns leaf j = refDown ns leaf (j + 1) ++ (if onB ns leaf j then [(j : Int)] else []) := by
  unfold refDown
  rw [List.drop_eq_getElem_cons (by simp [rangeI]; exact h), List.reverse_cons, List.filter_append]
  congr 1
  have : (rangeI ns.length)[j]'(by simp [rangeI]; exact h) = (j : Int) := by simp [rangeI]
  rw [this, List.filter_cons, List.filter_nil]
theorem refDown_len (ns : List Nd) (leaf : Int) (j : Nat) : (refDown ns leaf j).length ≤ ns.length := by
  have := List.length_filter_le (onB ns leaf) ((rangeI ns.length).drop j).reverse
  unfold refDown
  have h2 : (((rangeI ns.length).drop j).reverse).length ≤ ns.length := by simp [rangeI]
  omega
theorem refDown_end (ns : List Nd) (leaf : Int) : refDown ns leaf ns.length = [] := by unfold refDown; rw [List.drop_of_length_le (by simp [rangeI])]; rfl

set_option maxRecDepth 100000 in
set_option maxHeartbeats 4000000 in
theorem refPath_any (ns : List Nd) (ao : Option Addr) (cap : Nat) (leaf : Int) (w : World) (hrow : NdRow w ao ns) (hlen : ns.length ≤ 2000000) :
    Calls Try.prog 16 #[.slice ao ns.length cap, .int .i64 leaf] w (IntsP (refDown ns leaf 0) w) := by
  have HROW := Lib.hid hrow
  have HRL := Lib.hid (refDown_len ns leaf)
  have HRE := Lib.hid (refDown_end ns leaf)
  clear hrow
  obtain ⟨N, hN⟩ : ∃ N, ns.length = N := ⟨_, rfl⟩
  have HNN := Lib.hid hN
  rw [hN] at hlen HRL HRE ⊢
  clear hN
  obtain ⟨i0, hi0, hzz, hz1, hz2⟩ := info_parts infoInt
  go_enter Try.func16, Try.ntmps16
  go_wp2_with fail
  go_loopw [5, 6] (fun ov iv wr => ∃ (j m : Nat) (oa : Option Addr) (oc : Nat), j ≤ N ∧ iv = .int .i64 ((j : Int) - 1) ∧ ov = .slice oa m oc ∧ m ≤ 2000000 ∧ Hid (m = (refDown ns leaf j).length) ∧ Hid (wr.ownsRow w.heap.size 3 1 (.slice oa m oc) m ((refDown ns leaf j).map (.int .i64))) ∧ Hid (Below w.heap.size w wr)) (fun _ iv _ => (intOf iv + 1).toNat)
  case atStart => exact ⟨N, 0, none, 0, Nat.le_refl _, rfl, rfl, by omega, Lib.hid (by rw [HRE.out]; rfl), Lib.hid (by rw [HRE.out]; exact World.ownsRow_nil _ _ _ _), Lib.hid (Below.refl _ _)⟩
  case round =>
    obtain ⟨j, m, oa, oc, hj, rfl, rfl, hm, HM, HO, HB⟩ := hrel
    cases j with
    | zero =>
      go_wp2
      go_ret
      exact ⟨oa, oc, by rw [← HM.out]; rfl, by rw [← HM.out]; exact HO.out, HB.out⟩
    | succ k =>
      have hkN : k < N := by omega
      have hcast : ((k + 1 : Nat) : Int) - 1 = k := by omega
      rw [hcast]
      obtain ⟨bx, ox, rfl, e0, e1, e2, e3, e4, e5, e6⟩ := (HROW.out.later HB.out).node k (by rw [HNN.out]; exact hkN)
      obtain ⟨u, hu⟩ : ∃ u, ns.getD k Nd.zero = u := ⟨_, rfl⟩
      rw [hu] at e3 e4
      have hu' : nd ns (k : Int) = u := by unfold nd; simpa using hu
      have HON := Lib.hid (show onB ns leaf k = (decide (u.f ≤ leaf) && decide (leaf < u.t)) by unfold onB; rw [hu'])
      have HST := Lib.hid (refDown_step ns leaf k (by rw [HNN.out]; exact hkN))
      have hmk := HRL.out k
      clear e0 e1 e2 e5 e6 hu hu' hcast
      by_cases hx : u.f ≤ leaf
      · by_cases hy : leaf < u.t
        · have HE := Lib.hid (show refDown ns leaf k = refDown ns leaf (k + 1) ++ [(k : Int)] by rw [HST.out, HON.out, decide_eq_true hx, decide_eq_true hy]; rfl)
          have hm1 : m + 1 ≤ 2000000 := by
            have h1 := HM.out
            rw [HE.out, List.length_append, ← h1] at hmk
            simp at hmk
            omega
          go_wp2_with (at_builtin; refine wpList_append_any _ rfl (.tmp 30) (.tmp 32) 29 rfl w.heap.size 3 i0 (.int .i64 0) 1 8 Try.underlying29 hi0 hzz hz1 hz2 rfl (by decide) _ _ _ rfl (HO.out.alloc _) (wr.heap.size + 1) (some ⟨wr.heap.size, 0, none⟩) 1 1 [.int .i64 (k : Int)] rfl (reads_cells wr #[.int .i64 (k : Int)] _ 1 1 rfl) (by intro u hu; simp at hu; subst hu; rfl) (by unfold maxLen; omega) (by omega) (Nat.le_trans HB.out.size (by simp)) ?_)
          intro v2 w5 ho5 hg5 _
          obtain ⟨oa2, oc2, rfl⟩ := own_shape ho5
          have HB5 := Lib.hid ((HB.out.alloc HB.out.size (.cells #[.int .i64 (k : Int)] 3)).grown hg5 (Nat.le_trans HB.out.size (by simp)) (fun r hr => (HO.out.lt r hr).1))
          have HO5 := Lib.hid ho5
          clear ho5 hg5
          go_wp2_with fail
          go_roundw
          case rel => exact ⟨k, m + 1, oa2, oc2, by omega, by go_num, rfl, hm1, Lib.hid (by rw [HE.out, List.length_append, ← HM.out]; rfl), Lib.hid (by rw [HE.out, List.map_append]; exact HO5.out), HB5⟩
          case measure => simp [intOf]
        · have HE := Lib.hid (show refDown ns leaf k = refDown ns leaf (k + 1) by rw [HST.out, HON.out, decide_eq_false hy]; simp)
          go_wp2_with fail
          go_roundw
          case rel => exact ⟨k, m, oa, oc, by omega, by go_num, rfl, hm, Lib.hid (by rw [HE.out]; exact HM.out), Lib.hid (by rw [HE.out]; exact HO.out), HB⟩
          case measure => simp [intOf]
      · have HE := Lib.hid (show refDown ns leaf k = refDown ns leaf (k + 1) by rw [HST.out, HON.out, decide_eq_false hx]; simp)
        go_wp2_with fail
        go_roundw
        case rel => exact ⟨k, m, oa, oc, by omega, by go_num, rfl, hm, Lib.hid (by rw [HE.out]; exact HM.out), Lib.hid (by rw [HE.out]; exact HO.out), HB⟩
        case measure => simp [intOf]

theorem path_out {ns : List Nd} {leaf : Int} {n : Nat} {f b : Int} (hsub : SubAt ns n f b) (ho : leaf < f ∨ f + n ≤ leaf) : ((segI b (2 * n - 1)).reverse).filter (onB ns leaf) = [] := by
  have hp := hsub.pos
  rw [List.filter_eq_nil_iff]
  intro x hx
  have hx' := mem_segI.1 (List.mem_reverse.1 hx)
  obtain ⟨g1, g2, g3⟩ := sub_range hp f b hsub x hx'.1 (by omega)
  unfold onB
  simp
  omega
theorem path_sub {ns : List Nd} (leaf : Int) {n : Nat} (h : 1 ≤ n) : ∀ f b, SubAt ns n f b → f ≤ leaf → leaf < f + n → ((segI b (2 * n - 1)).reverse).filter (onB ns leaf) = pathT leaf n f b := by
  refine half_ind (M := fun n => ∀ f b, SubAt ns n f b → f ≤ leaf → leaf < f + n → ((segI b (2 * n - 1)).reverse).filter (onB ns leaf) = pathT leaf n f b) (fun f b hsub h0 h1 => ?_) (fun n h i1 i2 f b hsub h0 h1 => ?_) n h
  · have hr := hsub.root
    rw [pathT_leaf (by omega)]
    have e : b + (2 * ((1 : Nat) : Int) - 2) = b := by omega
    rw [e] at hr ⊢
    have : segI b (2 * 1 - 1) = [b] := by simp [segI]
    rw [this]
    have ho : onB ns leaf b = true := by
      unfold onB
      rw [hr, rootNd_f, rootNd_t (by omega)]
      simp; omega
    rw [List.reverse_singleton, List.filter_cons, ho]; rfl
  · obtain ⟨a1, a2, a3, a4⟩ := lhalf_lt h
    have hs := lhalf_add n
    have ho : onB ns leaf (b + (2 * (n : Int) - 2)) = true := by
      unfold onB
      rw [hsub.root, rootNd_f, rootNd_t (by omega)]
      simp; omega
    rw [seg_tree h, List.reverse_append, List.reverse_append, List.filter_append, List.filter_append, List.reverse_singleton, List.filter_cons, ho]
    by_cases hx : leaf < f + lhalf n
    · rw [pathT_left h hx, path_out (hsub.right h) (.inl hx), i1 f b (hsub.left h) h0 hx]; rfl
    · rw [pathT_right h hx, path_out (hsub.left h) (.inr (by omega)), i2 _ _ (hsub.right h) (by omega) (by omega)]; simp
theorem refDown_path {n : Nat} {leaf : Int} (h0 : 0 ≤ leaf) (h1 : leaf < n) : refDown (frameN n) leaf 0 = pathT leaf n 0 0 := by
  have hn : 1 ≤ n := by omega
  rw [← path_sub leaf hn 0 0 (SubAt.all hn) h0 (by omega)]
  unfold refDown
  rw [frameN_len, ← segI_range, List.drop_zero]
end Go.Proofs.Ytmfkpjafeaidkaa
