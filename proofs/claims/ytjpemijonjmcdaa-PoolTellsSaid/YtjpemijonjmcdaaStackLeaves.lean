/- The contracts of stack.Leaves and of its closure. -/
import Derived.Test.YtjpemijonjmcdaaStackAll
import Derived.Deep.DeepCutAuto
namespace Go.Proofs.Ytjpemijonjmcdaa
open Go.RowKit
set_option linter.unusedVariables false

/-- Is a node over any of a range? -/
def overB (ns : List Nd) (from0 to0 : Int) (x : Int) : Bool := !(decide ((nd ns x).t ≤ from0) || decide (to0 ≤ (nd ns x).f))
def toldOne (ns : List Nd) (from0 to0 : Int) (x : Int) : List Int := if overB ns from0 to0 x = true ∧ (nd ns x).k = 1 then [(nd ns x).f] else []
/-- What is told of the places that were entered. -/
def toldL (ns : List Nd) (from0 to0 : Int) (pre : List Int) : List Int := pre.flatMap (toldOne ns from0 to0)
theorem toldL_snoc (ns : List Nd) (a b : Int) (pre : List Int) (x : Int) : toldL ns a b (pre ++ [x]) = toldL ns a b pre ++ toldOne ns a b x := by unfold toldL; rw [List.flatMap_append]; simp
theorem toldL_len (ns : List Nd) (a b : Int) (pre : List Int) : (toldL ns a b pre).length ≤ pre.length := by
  induction pre with
  | nil => simp [toldL]
  | cons x l ih =>
    have h : (toldOne ns a b x).length ≤ 1 := by unfold toldOne; split <;> simp
    unfold toldL at *; rw [List.flatMap_cons, List.length_append, List.length_cons]; omega

def LeavesJ (B s : Nat) (ns : List Nd) (from0 to0 : Int) (fp : List Nat) (pre : List Int) (W : World) : Prop :=
  ∃ a c, fp = [s, s + 1, s + 2, s + 3] ++ (Value.slice a (toldL ns from0 to0 pre).length c).ownBlock.toList ∧ B ≤ s ∧
    W.heap[s]? = some (.cells #[.int .i64 from0] 3 (0, 0)) ∧ W.heap[s + 1]? = some (.cells #[.int .i64 to0] 3 (0, 0)) ∧
    W.heap[s + 2]? = some (.cells #[.slice a (toldL ns from0 to0 pre).length c] 25 (0, 0)) ∧ W.heap[s + 3]? = some (.cells #[.int .i64 pre.length] 3 (0, 0)) ∧
    W.ownsRow B 3 1 (.slice a (toldL ns from0 to0 pre).length c) (toldL ns from0 to0 pre).length ((toldL ns from0 to0 pre).map (.int .i64)) ∧
    (∀ g, (Value.slice a (toldL ns from0 to0 pre).length c).ownBlock = some g → g < s ∨ s + 4 ≤ g)

/-- What a call of a closure leaves. -/
def CallPost (J : List Nat → List Int → World → Prop) (fp : List Nat) (b : Bool) (out : List Int) (W : World) (e : Ending) (W' : World) : Prop :=
  ∃ fp', e = .returned (.bool b) ∧ J fp' out W' ∧ ChgOnly fp W W' ∧ ∀ b ∈ fp', b ∈ fp ∨ W.heap.size ≤ b
theorem one_other {w : World} {b c : Nat} {o : Obj} (h : w.heap[b]? = some o) (hne : b ≠ c) (k : Nat) (u : Value) : (w.setCell ⟨c, k, none⟩ u).heap[b]? = some o := (Below.heap_setCell w ⟨c, k, none⟩ u b hne).trans h

set_option maxRecDepth 100000 in
set_option maxHeartbeats 1000000 in
theorem leaves1_no (B s : Nat) (ns : List Nd) (from0 to0 : Int) (hlen : ns.length ≤ 2513169434907) (fp : List Nat) (pre : List Int) (W : World) (x : Int) (hj : LeavesJ B s ns from0 to0 fp pre W) (hp : pre.length < ns.length) (hd : overB ns from0 to0 x = false) :
    Calls Try.prog 46 #[.int .i64 x, (nd ns x).val, .pointer (some ⟨s + 3, 0, none⟩), .pointer (some ⟨s, 0, none⟩), .pointer (some ⟨s + 1, 0, none⟩), .pointer (some ⟨s + 2, 0, none⟩)] W (CallPost (LeavesJ B s ns from0 to0) fp false (pre ++ [x]) W) := by
  obtain ⟨a, c, rfl, hBs, h0, h1, h2, h3, hown, hne⟩ := hj
  have hT := Lib.hid (show toldL ns from0 to0 (pre ++ [x]) = toldL ns from0 to0 pre by rw [toldL_snoc]; unfold toldOne; rw [if_neg (by rw [hd]; simp)]; simp)
  have c0 := cell_of_one h0
  have c1 := cell_of_one h1
  have c3 := cell_of_one h3
  have f3 := free_of_one h3
  have l0 := lt_of_block h0
  have l1 := lt_of_block h1
  have l3 := lt_of_block h3
  have H0 := Lib.hid h0
  have H1 := Lib.hid h1
  have H2 := Lib.hid h2
  have H3 := Lib.hid h3
  have HO := Lib.hid hown
  have HN := Lib.hid hne
  have fin : CallPost (LeavesJ B s ns from0 to0) ([s, s + 1, s + 2, s + 3] ++ (Value.slice a (toldL ns from0 to0 pre).length c).ownBlock.toList) false (pre ++ [x]) W (.returned (.bool false)) ((W.setCell ⟨s + 3, 0, none⟩ (.int .i64 (pre.length + 1))).alloc (.cells #[.int .u8 (nd ns x).k, .int .i64 (nd ns x).l, .int .i64 (nd ns x).r, .int .i64 (nd ns x).f, .int .i64 (nd ns x).t, .int .i64 (nd ns x).a, .int .i64 (nd ns x).i] 36)) := by
    refine ⟨_, rfl, ⟨a, c, rfl, hBs, ?_, ?_, ?_, ?_, ?_, ?_⟩, ?_, ?_⟩
    · exact (Below.heap_alloc _ _ _ (by simpa using l0)).trans (one_other h0 (by omega) _ _)
    · exact (Below.heap_alloc _ _ _ (by simpa using l1)).trans (one_other h1 (by omega) _ _)
    · rw [hT.out]; exact (Below.heap_alloc _ _ _ (by simpa using lt_of_block h2)).trans (one_other h2 (by omega) _ _)
    · have h := one_setCell h3 (u := .int .i64 (pre.length + 1))
      exact (Below.heap_alloc _ _ _ (by simpa using l3)).trans (by simpa using h)
    · rw [hT.out]; exact (ownsRow_setCell_other hown (a := ⟨s + 3, 0, none⟩) (fun e => by have h : s + 3 < s ∨ s + 4 ≤ s + 3 := hne _ e; omega) _).alloc _
    · rw [hT.out]; exact hne
    · exact ((ChgOnly.refl _ W).step (ChgOnly.setCell W (s + 3) 0 _) (fun y hy => .inl (by simp at hy; subst hy; simp))).step (ChgOnly.alloc (fp := []) _ _) (by simp)
    · rw [hT.out]; exact fun b hb => .inl hb
  have FIN := Lib.hid fin
  clear h0 h1 h2 h3 hown hne fin
  unfold overB at hd
  by_cases ht : (nd ns x).t ≤ from0
  · clear hd
    go_enter Try.func46, Try.ntmps46
    go_wp2
    go_ret
    exact FIN.out
  · have hf : to0 ≤ (nd ns x).f := by simp [ht] at hd; exact hd
    have ht' : from0 < (nd ns x).t := by omega
    clear hd ht
    go_enter Try.func46, Try.ntmps46
    go_wp2
    go_ret
    exact FIN.out
set_option maxRecDepth 100000 in
set_option maxHeartbeats 1000000 in
theorem leaves1_inner (B s : Nat) (ns : List Nd) (from0 to0 : Int) (hlen : ns.length ≤ 2513169434907) (fp : List Nat) (pre : List Int) (W : World) (x : Int) (hj : LeavesJ B s ns from0 to0 fp pre W) (hp : pre.length < ns.length) (hd : overB ns from0 to0 x = true) (hk : (nd ns x).k ≠ 1) :
    Calls Try.prog 46 #[.int .i64 x, (nd ns x).val, .pointer (some ⟨s + 3, 0, none⟩), .pointer (some ⟨s, 0, none⟩), .pointer (some ⟨s + 1, 0, none⟩), .pointer (some ⟨s + 2, 0, none⟩)] W (CallPost (LeavesJ B s ns from0 to0) fp true (pre ++ [x]) W) := by
  obtain ⟨a, c, rfl, hBs, h0, h1, h2, h3, hown, hne⟩ := hj
  have hT := Lib.hid (show toldL ns from0 to0 (pre ++ [x]) = toldL ns from0 to0 pre by rw [toldL_snoc]; unfold toldOne; rw [if_neg (fun h => hk h.2)]; simp)
  have c0 := cell_of_one h0
  have c1 := cell_of_one h1
  have c3 := cell_of_one h3
  have f3 := free_of_one h3
  have l0 := lt_of_block h0
  have l1 := lt_of_block h1
  have l3 := lt_of_block h3
  have H0 := Lib.hid h0
  have H1 := Lib.hid h1
  have H2 := Lib.hid h2
  have H3 := Lib.hid h3
  have HO := Lib.hid hown
  have HN := Lib.hid hne
  have fin : CallPost (LeavesJ B s ns from0 to0) ([s, s + 1, s + 2, s + 3] ++ (Value.slice a (toldL ns from0 to0 pre).length c).ownBlock.toList) true (pre ++ [x]) W (.returned (.bool true)) ((W.setCell ⟨s + 3, 0, none⟩ (.int .i64 (pre.length + 1))).alloc (.cells #[.int .u8 (nd ns x).k, .int .i64 (nd ns x).l, .int .i64 (nd ns x).r, .int .i64 (nd ns x).f, .int .i64 (nd ns x).t, .int .i64 (nd ns x).a, .int .i64 (nd ns x).i] 36)) := by
    refine ⟨_, rfl, ⟨a, c, rfl, hBs, ?_, ?_, ?_, ?_, ?_, ?_⟩, ?_, ?_⟩
    · exact (Below.heap_alloc _ _ _ (by simpa using l0)).trans (one_other h0 (by omega) _ _)
    · exact (Below.heap_alloc _ _ _ (by simpa using l1)).trans (one_other h1 (by omega) _ _)
    · rw [hT.out]; exact (Below.heap_alloc _ _ _ (by simpa using lt_of_block h2)).trans (one_other h2 (by omega) _ _)
    · have h := one_setCell h3 (u := .int .i64 (pre.length + 1))
      exact (Below.heap_alloc _ _ _ (by simpa using l3)).trans (by simpa using h)
    · rw [hT.out]; exact (ownsRow_setCell_other hown (a := ⟨s + 3, 0, none⟩) (fun e => by have h : s + 3 < s ∨ s + 4 ≤ s + 3 := hne _ e; omega) _).alloc _
    · rw [hT.out]; exact hne
    · exact ((ChgOnly.refl _ W).step (ChgOnly.setCell W (s + 3) 0 _) (fun y hy => .inl (by simp at hy; subst hy; simp))).step (ChgOnly.alloc (fp := []) _ _) (by simp)
    · rw [hT.out]; exact fun b hb => .inl hb
  have FIN := Lib.hid fin
  clear h0 h1 h2 h3 hown hne fin
  unfold overB at hd
  have ht : from0 < (nd ns x).t := by simp at hd; omega
  have hf : (nd ns x).f < to0 := by simp at hd; omega
  have hk' : ((nd ns x).k == 1) = false := by simpa using hk
  clear hd hk
  go_enter Try.func46, Try.ntmps46
  go_wp2
  go_ret
  exact FIN.out

set_option maxRecDepth 100000 in
set_option maxHeartbeats 1000000 in
theorem leaves1_leaf (B s : Nat) (ns : List Nd) (from0 to0 : Int) (hlen : ns.length ≤ 2513169434907) (fp : List Nat) (pre : List Int) (W : World) (x : Int) (hj : LeavesJ B s ns from0 to0 fp pre W) (hp : pre.length < ns.length) (hd : overB ns from0 to0 x = true) (hk : (nd ns x).k = 1) :
    Calls Try.prog 46 #[.int .i64 x, (nd ns x).val, .pointer (some ⟨s + 3, 0, none⟩), .pointer (some ⟨s, 0, none⟩), .pointer (some ⟨s + 1, 0, none⟩), .pointer (some ⟨s + 2, 0, none⟩)] W (CallPost (LeavesJ B s ns from0 to0) fp true (pre ++ [x]) W) := by
  obtain ⟨a, c, rfl, hBs, h0, h1, h2, h3, hown, hne⟩ := hj
  have hT := Lib.hid (show toldL ns from0 to0 (pre ++ [x]) = toldL ns from0 to0 pre ++ [(nd ns x).f] by rw [toldL_snoc]; unfold toldOne; rw [if_pos ⟨hd, hk⟩])
  have hTl := toldL_len ns from0 to0 pre
  generalize toldL ns from0 to0 pre = told at *
  have c0 := cell_of_one h0
  have c1 := cell_of_one h1
  have c2 := cell_of_one h2
  have c3 := cell_of_one h3
  have f2 := free_of_one h2
  have f3 := free_of_one h3
  have l0 := lt_of_block h0
  have l1 := lt_of_block h1
  have l2 := lt_of_block h2
  have l3 := lt_of_block h3
  have H0 := Lib.hid h0
  have H1 := Lib.hid h1
  have H2 := Lib.hid h2
  have H3 := Lib.hid h3
  have HO := Lib.hid hown
  have HN := Lib.hid hne
  clear h0 h1 h2 h3 hown hne
  obtain ⟨i0, hi, hzz, hz1, hz2⟩ := info_parts infoInt
  have hone : ∀ k : Int, ∀ u ∈ [Value.int .i64 k], u.oneCell' = true := fun k u hu => by simp at hu; subst hu; rfl
  unfold overB at hd
  have ht : from0 < (nd ns x).t := by simp at hd; omega
  have hf : (nd ns x).f < to0 := by simp at hd; omega
  have hk' : ((nd ns x).k == 1) = true := by simpa using hk
  clear hd hk
  go_enter Try.func46, Try.ntmps46
  go_upto_region 5 with (fail)
  have v0 : ((W.setCell ⟨s + 3, 0, none⟩ (.int .i64 (pre.length + 1))).alloc (.cells #[.int .u8 (nd ns x).k, .int .i64 (nd ns x).l, .int .i64 (nd ns x).r, .int .i64 (nd ns x).f, .int .i64 (nd ns x).t, .int .i64 (nd ns x).a, .int .i64 (nd ns x).i] 36)).heap[s]? = some (.cells #[.int .i64 from0] 3 (0, 0)) := (Below.heap_alloc _ _ _ (by simpa using l0)).trans (one_other H0.out (by omega) _ _)
  have v1 : ((W.setCell ⟨s + 3, 0, none⟩ (.int .i64 (pre.length + 1))).alloc (.cells #[.int .u8 (nd ns x).k, .int .i64 (nd ns x).l, .int .i64 (nd ns x).r, .int .i64 (nd ns x).f, .int .i64 (nd ns x).t, .int .i64 (nd ns x).a, .int .i64 (nd ns x).i] 36)).heap[s + 1]? = some (.cells #[.int .i64 to0] 3 (0, 0)) := (Below.heap_alloc _ _ _ (by simpa using l1)).trans (one_other H1.out (by omega) _ _)
  have v2 : ((W.setCell ⟨s + 3, 0, none⟩ (.int .i64 (pre.length + 1))).alloc (.cells #[.int .u8 (nd ns x).k, .int .i64 (nd ns x).l, .int .i64 (nd ns x).r, .int .i64 (nd ns x).f, .int .i64 (nd ns x).t, .int .i64 (nd ns x).a, .int .i64 (nd ns x).i] 36)).heap[s + 2]? = some (.cells #[.slice a told.length c] 25 (0, 0)) := (Below.heap_alloc _ _ _ (by simpa using l2)).trans (one_other H2.out (by omega) _ _)
  have v3 : ((W.setCell ⟨s + 3, 0, none⟩ (.int .i64 (pre.length + 1))).alloc (.cells #[.int .u8 (nd ns x).k, .int .i64 (nd ns x).l, .int .i64 (nd ns x).r, .int .i64 (nd ns x).f, .int .i64 (nd ns x).t, .int .i64 (nd ns x).a, .int .i64 (nd ns x).i] 36)).heap[s + 3]? = some (.cells #[.int .i64 (pre ++ [x]).length] 3 (0, 0)) := (Below.heap_alloc _ _ _ (by simpa using l3)).trans (by have h := one_setCell H3.out (u := .int .i64 (pre.length + 1)); simpa using h)
  have vo : ((W.setCell ⟨s + 3, 0, none⟩ (.int .i64 (pre.length + 1))).alloc (.cells #[.int .u8 (nd ns x).k, .int .i64 (nd ns x).l, .int .i64 (nd ns x).r, .int .i64 (nd ns x).f, .int .i64 (nd ns x).t, .int .i64 (nd ns x).a, .int .i64 (nd ns x).i] 36)).ownsRow B 3 1 (.slice a told.length c) told.length (told.map (.int .i64)) := (ownsRow_setCell_other HO.out (a := ⟨s + 3, 0, none⟩) (fun e => by have h : s + 3 < s ∨ s + 4 ≤ s + 3 := HN.out _ e; omega) _).alloc _
  have vc : ChgOnly ([s, s + 1, s + 2, s + 3] ++ (Value.slice a told.length c).ownBlock.toList) W ((W.setCell ⟨s + 3, 0, none⟩ (.int .i64 (pre.length + 1))).alloc (.cells #[.int .u8 (nd ns x).k, .int .i64 (nd ns x).l, .int .i64 (nd ns x).r, .int .i64 (nd ns x).f, .int .i64 (nd ns x).t, .int .i64 (nd ns x).a, .int .i64 (nd ns x).i] 36)) := ((ChgOnly.refl _ W).step (ChgOnly.setCell W (s + 3) 0 _) (fun y hy => .inl (by simp at hy; subst hy; simp))).step (ChgOnly.alloc (fp := []) _ _) (by simp)
  have vn : ((W.setCell ⟨s + 3, 0, none⟩ (.int .i64 (pre.length + 1))).alloc (.cells #[.int .u8 (nd ns x).k, .int .i64 (nd ns x).l, .int .i64 (nd ns x).r, .int .i64 (nd ns x).f, .int .i64 (nd ns x).t, .int .i64 (nd ns x).a, .int .i64 (nd ns x).i] 36)).cell? ⟨W.heap.size, 3, none⟩ = some (.int .i64 (nd ns x).f) := by
    have h := World.cell?_alloc_new (W.setCell ⟨s + 3, 0, none⟩ (.int .i64 (pre.length + 1))) #[.int .u8 (nd ns x).k, .int .i64 (nd ns x).l, .int .i64 (nd ns x).r, .int .i64 (nd ns x).f, .int .i64 (nd ns x).t, .int .i64 (nd ns x).a, .int .i64 (nd ns x).i] 36 3
    rw [World.size_setCell] at h; exact h
  generalize ((W.setCell ⟨s + 3, 0, none⟩ (.int .i64 (pre.length + 1))).alloc (.cells #[.int .u8 (nd ns x).k, .int .i64 (nd ns x).l, .int .i64 (nd ns x).r, .int .i64 (nd ns x).f, .int .i64 (nd ns x).t, .int .i64 (nd ns x).a, .int .i64 (nd ns x).i] 36)) = V at *
  have cv2 := cell_of_one v2
  have fv2 := free_of_one v2
  have lv := lt_of_block v3
  have VO := Lib.hid vo
  have VC := Lib.hid vc
  have V0 := Lib.hid v0
  have V1 := Lib.hid v1
  have V2 := Lib.hid v2
  have V3 := Lib.hid v3
  clear c0 c1 c2 c3 f2 f3 v0 v1 v2 v3 vo vc l0 l1 l2 l3
  go_wp2_with (at_builtin; refine wpList_append_sharp _ rfl (.tmp 24) (.tmp 27) 25 rfl B 3 i0 (.int .i64 0) 1 8 Try.underlying25 hi hzz hz1 hz2 rfl (by decide) _ _ _ rfl (VO.out.alloc _) ⟨V.heap.size, 0, none⟩ 1 1 [.int .i64 (nd ns x).f] rfl rfl (cell_one_new _ _ _) (hone _) (by unfold maxLen; omega) (by omega) (by simp only [World.size_alloc]; omega) ?_)
  intro v' w3 ho hg hl
  obtain ⟨a', c', rfl⟩ : ∃ a' c', v' = .slice a' (told.length + 1) c' := by
    rcases ho.2 with ⟨_, h⟩ | ⟨g, c, _, h, _⟩
    · omega
    · exact ⟨_, c, h⟩
  have stay : ∀ b o, b < V.heap.size → (∀ g, (Value.slice a told.length c).ownBlock = some g → g ≠ b) → V.heap[b]? = some o → w3.heap[b]? = some o := fun b o hb hn h => by
    rw [hg.block b (by simp only [World.size_alloc]; omega) (fun e => hn b e.symm rfl), Below.heap_alloc _ _ _ hb]; exact h
  have nn : ∀ b, s ≤ b → b < s + 4 → ∀ g, (Value.slice a told.length c).ownBlock = some g → g ≠ b := fun b h1 h2 g hgg e => by have := HN.out g hgg; omega
  have z2 := stay (s + 2) _ (by omega) (nn _ (by omega) (by omega)) V2.out
  have cz2 := cell_of_one z2
  have fz2 := free_of_one z2
  have Z0 := Lib.hid (stay s _ (by omega) (nn _ (by omega) (by omega)) V0.out)
  have Z1 := Lib.hid (stay (s + 1) _ (by omega) (nn _ (by omega) (by omega)) V1.out)
  have Z2 := Lib.hid z2
  have Z3 := Lib.hid (stay (s + 3) _ (by omega) (nn _ (by omega) (by omega)) V3.out)
  have O3 := Lib.hid ho
  have G3 := Lib.hid hg
  have L3 := Lib.hid hl
  clear stay nn z2 ho hg hl cv2 fv2 vn
  have fin : CallPost (LeavesJ B s ns from0 to0) ([s, s + 1, s + 2, s + 3] ++ (Value.slice a told.length c).ownBlock.toList) true (pre ++ [x]) W (.returned (.bool true)) (w3.setCell ⟨s + 2, 0, none⟩ (.slice a' (told.length + 1) c')) := by
    have hnr : ∀ g, (Value.slice a' (told.length + 1) c').ownBlock = some g → g < s ∨ s + 4 ≤ g := by
      intro g hgg
      rcases L3.out with h | h
      · exact HN.out g (h ▸ hgg)
      · have := h g hgg; omega
    refine ⟨[s, s + 1, s + 2, s + 3] ++ (Value.slice a' (told.length + 1) c').ownBlock.toList, rfl, ⟨a', c', by rw [hT.out]; simp, hBs, ?_, ?_, ?_, ?_, ?_, ?_⟩, ?_, ?_⟩
    · exact one_other Z0.out (by omega) _ _
    · exact one_other Z1.out (by omega) _ _
    · rw [hT.out]; simpa using one_setCell Z2.out (u := .slice a' (told.length + 1) c')
    · exact one_other Z3.out (by omega) _ _
    · rw [hT.out]
      have h := ownsRow_setCell_other O3.out (a := ⟨s + 2, 0, none⟩) (fun e => by have h : s + 2 < s ∨ s + 4 ≤ s + 2 := hnr _ e; omega) (.slice a' (told.length + 1) c')
      simpa using h
    · rw [hT.out]; simpa using hnr
    · exact ((VC.out.step (ChgOnly.alloc (fp := []) V _) (by simp)).step (.grown G3.out) (fun y hy => .inl (List.mem_append_right _ hy))).step (.setCell _ _ _ _) (fun y hy => .inl (by simp at hy; subst hy; simp))
    · intro b hb
      rcases List.mem_append.1 hb with h | h
      · exact .inl (List.mem_append_left _ h)
      · simp only [Option.mem_toList] at h
        rcases L3.out with e | e
        · rw [e] at h; exact .inl (List.mem_append_right _ (by simpa using h))
        · exact .inr (by have h5 := e b h; have := VC.out.size; omega)
  have FIN := Lib.hid fin
  clear fin
  go_wp2
  go_ret
  exact FIN.out
end Go.Proofs.Ytjpemijonjmcdaa
