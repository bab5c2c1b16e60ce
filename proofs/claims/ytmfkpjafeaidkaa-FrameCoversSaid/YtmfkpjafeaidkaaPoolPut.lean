/- The contract of pool.put: the kids of a node are marked, and one place more that is not. -/
import Derived.Test.YtmfkpjafeaidkaaPoolMay
import Derived.Test.YtmfkpjafeaidkaaAppend
namespace Go.Proofs.Ytmfkpjafeaidkaa
open Go.RowKit Go.Shelf
attribute [local go_sem] Oper.semAt_some
set_option linter.unusedVariables false

def markL (ks : List Bool) (l : List Int) : List Bool := l.foldl (fun ks x => ks.set x.toNat true) ks
theorem markL_len (ks : List Bool) (l : List Int) : (markL ks l).length = ks.length := by
  unfold markL; induction l generalizing ks with
  | nil => rfl
  | cons x l ih => simp only [List.foldl_cons]; rw [ih]; simp
theorem markL_snoc (ks : List Bool) (l : List Int) (x : Int) : markL ks (l ++ [x]) = (markL ks l).set x.toNat true := by unfold markL; rw [List.foldl_append]; rfl
theorem infoBool : (Try.prog.info? 4).map (fun i => (i.zero, i.size, i.bytes)) = some (some (.bool false), 1, 1) := by kernel_rfl

theorem grownBy_own {w A : World} {row : Option Nat} {B r : Nat} {W' : World} (h : w.grownBy A row) (hg : A.grownBy W' (some r)) (hr : w.heap.size ≤ r) : w.grownBy W' row :=
  ⟨hg.os.trans h.os, hg.tape.trans h.tape, hg.output.trans h.output, Nat.le_trans h.size hg.size, fun k hk hne => (hg.block k (Nat.lt_of_lt_of_le hk h.size) (fun e => by cases e; omega)).trans (h.block k hk hne)⟩
/-- What put leaves. -/
def PutPost (base : Nat) (row : Option Nat) (n : Nat) (xs : List Value) (w : World) (e : Ending) (w' : World) : Prop :=
  ∃ v', e = .returned v' ∧ w'.ownsRow base 4 1 v' n xs ∧ w.grownBy w' row ∧ (v'.ownBlock = row ∨ ∀ k, v'.ownBlock = some k → w.heap.size ≤ k)

section
variable {P : Program} {F : Fence} {n : Nat} {c : Code} {Q : Exit → Act → World → Prop} {a : Act} {w : World} {x y z : Array Value} {tx ty tz : TypeId}
theorem wpIn_from_box3 (h : ∀ W, Boxed1 w W w.heap.size x → Boxed1 w W (w.heap.size + 1) y → Boxed1 w W (w.heap.size + 1 + 1) z → c.wpIn F n P Q a W) :
    c.wpIn F n P Q a (((w.alloc (.cells x tx)).alloc (.cells y ty)).alloc (.cells z tz)) := by
  refine h _ ?_ ?_ ?_
  · exact ((boxed_new w x tx).alloc _).alloc _
  · have e : (w.alloc (.cells x tx)).heap.size = w.heap.size + 1 := by simp only [World.size_alloc]
    have g := Boxed1.first (.cells x tx) ((boxed_new (w.alloc (.cells x tx)) y ty).alloc (.cells z tz))
    rw [e] at g; exact g
  · have e : ((w.alloc (.cells x tx)).alloc (.cells y ty)).heap.size = w.heap.size + 1 + 1 := by simp only [World.size_alloc]
    have g := Boxed1.first (.cells x tx) (Boxed1.first (.cells y ty) (boxed_new ((w.alloc (.cells x tx)).alloc (.cells y ty)) z tz))
    rw [e] at g; exact g
end
theorem grownBy_of_below {w W : World} (h : Below w.heap.size w W) (row : Option Nat) : w.grownBy W row := ⟨h.os, h.tape, h.output, h.size, fun k hk _ => h.block k hk⟩

set_option maxRecDepth 100000 in
set_option maxHeartbeats 1000000 in
theorem put_any (k L R f t a it : Int) (ks : List Bool) (ao : Option Addr) (cap base : Nat) (w : World) (hown : w.ownsRow base 4 1 (.slice ao ks.length cap) ks.length (ks.map .bool))
    (hk : ∀ x ∈ kidsL L R, 0 ≤ x ∧ x < ks.length) (hlen : ks.length + 1 ≤ 70368744177664) (hbase : base ≤ w.heap.size) :
    Calls Try.prog 37 #[nodeV k L R f t a it, .slice ao ks.length cap] w (PutPost base (Value.slice ao ks.length cap).ownBlock (ks.length + 1) ((markL ks (kidsL L R) ++ [false]).map .bool) w) := by
  refine (callsIn_wide (n := 6)).1 ?_
  refine callsIn_of_wp_marks Try.func37 rfl trivial ?_ rfl
  simp only [Try.ntmps37, List.size_toArray, List.length_cons, List.length_nil, Nat.reduceAdd, Nat.reduceSub, Array.replicate_succ, Array.replicate_zero, List.push_toArray, List.append_toArray, List.nil_append, List.cons_append]
  have hrow := hown.lt
  have HO := Lib.hid hown
  clear hown
  gi_wp2_with (refine ⟨trivial, ?_⟩; gi_at_call 38; refine (callsIn_wide.2 (kids_any _ _ _ _ _ _ _ _)).mono ?_; rintro e w' ⟨rfl, rfl⟩)
  refine wpIn_from_box3 (fun W hn hkb hc => ?_)
  obtain ⟨hB, zn, _, cn, _⟩ := hn
  obtain ⟨_, zk, _, ck, _⟩ := hkb
  obtain ⟨_, zc, _, cc, _⟩ := hc
  have hownW : W.ownsRow base 4 1 (.slice ao ks.length cap) ks.length (ks.map .bool) := HO.out.kept (grownBy_any (grownBy_of_below hB none) none) (by
    cases h : (Value.slice ao ks.length cap).ownBlock
    · exact .inl rfl
    · exact .inr (by simp))
  have hg0 : w.grownBy W (Value.slice ao ks.length cap).ownBlock := grownBy_of_below hB _
  refine wpIn_rangeFunc_ownG rfl (by omega) (gf := 47) (lb := #[.pointer (some ⟨w.heap.size + 1 + 1, 0, none⟩)]) rfl trivial (enters_of Try.func47 (by kernel_rfl) rfl)
    (kids_stops_mem Fence.wide _ trivial rfl (by omega) (w.heap.size + 1 + 1) L R W zc (cc 1) (cc 2)) KeepsBlock.trans (keepsBlock_put zc) (Below.refl _ _) (fun _ => rfl)
    (fun (pre : List { x : Int // x ∈ kidsL L R }) W' => W'.ownsRow base 4 1 (.slice ao ks.length cap) ks.length ((markL ks (pre.map Subtype.val)).map .bool) ∧ W'.cell? ⟨w.heap.size + 1, 0, none⟩ = some (.slice ao ks.length cap) ∧ w.grownBy W' (Value.slice ao ks.length cap).ownBlock ∧ W.heap.size ≤ W'.heap.size)
    (fun _ (_ : List { x : Int // x ∈ kidsL L R }) _ => False)
    (fun s A B row hs hg hr => ⟨hs.1.kept hg (by
        cases h : (Value.slice ao ks.length cap).ownBlock
        · exact .inl rfl
        · refine .inr (fun e => ?_)
          have h1 := (hr _ e.symm).1
          have h2 := (hrow _ h).2
          have h3 := hB.size
          omega), cell_kept hs.2.1 hg (fun r e => (hr r e).2), (by
        cases row with
        | none => exact ⟨hg.os.trans hs.2.2.1.os, hg.tape.trans hs.2.2.1.tape, hg.output.trans hs.2.2.1.output, Nat.le_trans hs.2.2.1.size hg.size, fun k hk hne => (hg.block k (Nat.lt_of_lt_of_le hk hs.2.2.1.size) (by simp)).trans (hs.2.2.1.block k hk hne)⟩
        | some r => exact grownBy_own (B := 0) hs.2.2.1 hg (Nat.le_trans hB.size (hr r rfl).1)), Nat.le_trans hs.2.2.2 hg.size⟩)
    (fun _ _ _ _ _ hs _ _ => hs)
    ⟨hownW, ck 0, hg0, Nat.le_refl _⟩
    (fun (x : { x : Int // x ∈ kidsL L R }) => { tmps := #[nodeV k L R f t a it, .slice ao ks.length cap, .pointer (some ⟨w.heap.size, 0, none⟩), .pointer (some ⟨w.heap.size + 1, 0, none⟩), .slice none 0 0, .int .i64 x.1, nodeV k L R f t a it, .func (.func 47) #[] #[.pointer (some ⟨w.heap.size + 1 + 1, 0, none⟩)], .int .i64 x.1, undef, undef, undef, undef, undef, undef], defers := [] }) ?assign ?body ?done ?stop
  case assign =>
    intro l x W' K hK
    gi_wp2
    exact hK
  case body =>
    rintro l pre ⟨x, hx⟩ W' ⟨ho, ck', hg', hz'⟩ _
    obtain ⟨hx0, hx1⟩ := hk x hx
    rcases ho.2 with ⟨h, hn0⟩ | ⟨g, cap', cur, h, _⟩
    · omega
    · simp only [Value.slice.injEq, true_and] at h
      obtain ⟨rfl, rfl⟩ := h
      have hcx := ho.cellAt x.toNat (by omega)
      have hfx := ho.frozenAt x.toNat
      have hst := ho.stored x.toNat (.bool true)
      have hown' := ho
      have hgl : g < w.heap.size := (hrow g rfl).2
      rw [List.getElem?_map, List.getElem?_eq_getElem (show x.toNat < (markL ks (pre.map Subtype.val)).length by rw [markL_len]; omega), Option.map_some] at hcx
      have HS := Lib.hid hst
      have HG := Lib.hid hg'
      have HM := Lib.hid hown'
      clear hst hg' ho hown' hownW hg0
      gi_wp2
      exact ⟨(KeepsOthers.setCell _ _ _).from _, fun i => World.cell?_setCell_other _ _ _ _ (fun e => by have e' := congrArg Addr.block e; dsimp only at e'; omega),
        by
          have h := HS.out.1
          rw [← List.map_set] at h
          rw [List.map_append, List.map_singleton, markL_snoc]
          exact h,
        (World.cell?_setCell_other _ _ _ _ (fun e => by have e' := congrArg Addr.block e; dsimp only at e'; omega)).trans ck', grownBy_trans HG.out HS.out.2, Nat.le_trans hz' HS.out.2.size⟩
  case done =>
    rintro D ys W' hD hys ⟨ho, ck', hg', hz'⟩ hK
    rw [show ys.map Subtype.val = kidsL L R from hys] at ho
    obtain ⟨i0, hi, hzz, hz1, hz2⟩ := info_parts infoBool
    have HG := Lib.hid hg'
    have HD := Lib.hid hK
    have HM := Lib.hid ho
    clear hg' hK ho hownW hg0 hys
    gi_wp2_with (gi_at_builtin; refine wpListIn_append_sharp _ rfl _ _ 85 rfl base 4 i0 (.bool false) 1 1 Try.underlying85 hi hzz hz1 hz2 rfl (by decide) _ _ _ rfl (HM.out.alloc _) ⟨W'.heap.size, 0, none⟩ 1 1 [.bool false] rfl rfl ?c1 ?c2 ?c3 ?c4 ?c5 ?_)
    case c1 => exact cell_one_new _ _ _
    case c2 => intro u hu; simp at hu; subst hu; rfl
    case c3 => unfold maxLen; omega
    case c4 => omega
    case c5 => rw [World.size_alloc]; have := hB.size; omega
    intro v' w1 ho' hg1 hloc
    have hDlt : D < W'.heap.size := (Array.getElem?_eq_some_iff.1 HD.out).1
    have hwD : w.heap.size ≤ D := Nat.le_trans hB.size hD
    have hK2 : w1.heap[D]? = some (.deferred (some [])) := by
      rw [hg1.block D (by rw [World.size_alloc]; omega) (fun e => by have := (hrow D e.symm).2; omega), Below.heap_alloc _ _ _ hDlt]; exact HD.out
    have HO' := Lib.hid ho'
    have HG1 := Lib.hid hg1
    have HL := Lib.hid hloc
    have HK2 := Lib.hid hK2
    clear ho' hg1 hloc hK2
    gi_wp2
    refine ⟨by simp, .inl ⟨_, _, rfl, run_takeDeferred HK2.out, ?_⟩⟩
    have hne : v'.ownBlock ≠ some D := fun e => by
      rcases HL.out with h | h
      · have := (hrow D (h.symm.trans e)).2; omega
      · have := h D e; omega
    refine ⟨_, results_tmp rfl _ _ _, v', rfl, ?_, ?_, ?_⟩
    · rw [List.map_append]; exact HO'.out.kept (grownBy_putObj' w1 D _) (.inr hne)
    · exact grownBy_own (B := 0) (grownBy_trans (grownBy_trans HG.out (World.grownBy_alloc W' _ _)) HG1.out) (grownBy_putObj' w1 D _) hwD
    · rcases HL.out with h | h
      · exact .inl h
      · exact .inr fun k hk => by have := h k hk; have := HG.out.size; omega
  case stop =>
    rintro D c pre W' hD hpre h _
    exact h.elim
end Go.Proofs.Ytmfkpjafeaidkaa
