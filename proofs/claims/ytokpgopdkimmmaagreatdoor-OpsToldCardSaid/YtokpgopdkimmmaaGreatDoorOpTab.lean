/- The codes' words and letters; ops.line. -/
import Derived.Test.YtokpgopdkimmmaaGreatDoorOpsLine
import Derived.Lib.TrimByte
namespace Go.Proofs.YtokpgopdkimmmaaGreatDoor
open Go.RowKit
set_option linter.unusedVariables false
set_option linter.unusedSimpArgs false

/-- The words, each with its letters, from the code 1 on. -/
def opTab : List (List UInt8 × List UInt8) :=
  [([112, 111, 105, 110, 116], [105, 97, 98]), ([115, 112, 97, 110], [105, 97, 98]), ([98, 111, 120], [105, 97, 98, 99, 100]), ([108, 111, 115, 101, 112, 111, 105, 110, 116], [105]), ([108, 111, 115, 101, 115, 112, 97, 110], [105]),
   ([108, 111, 115, 101, 98, 111, 120], [105]), ([102, 111, 117, 114], [97, 98, 99, 100]), ([102, 111, 117, 114, 115], [97, 98, 99, 100]), ([116, 104, 114, 101, 101], [97, 98, 99]), ([97, 110, 121], [97, 98, 99]),
   ([99, 111, 114, 110, 101, 114], [97, 98, 99]), ([99, 111, 114, 110, 101, 114, 115], [97, 98, 99]), ([108, 111, 119], [97, 98]), ([115, 107, 121], []), ([115, 116, 97, 98], [97]),
   ([115, 116, 97, 98, 115], [97]), ([109, 101, 101, 116], [97, 98]), ([97, 114, 101, 97], []), ([114, 105, 109], []), ([97, 116], [97, 98])]
def wordOf (c : Nat) : List UInt8 := if c = 0 then [] else (opTab.getD (c - 1) ([], [])).1
def letOf (c : Nat) : List UInt8 := if c = 0 then [] else (opTab.getD (c - 1) ([], [])).2
def isCode (c : Nat) : Bool := decide (1 ≤ c) && decide (c ≤ 20)
def opRows : List (List UInt8) := opTab.map fun x => x.1 ++ 45 :: x.2
theorem opRows_at : ∀ j : Fin 20, opRows[j.val]? = some (wordOf (j.val + 1) ++ 45 :: letOf (j.val + 1)) ∧ Lib.indexByte (wordOf (j.val + 1) ++ 45 :: letOf (j.val + 1)) 45 = ((wordOf (j.val + 1)).length : Int) ∧ (wordOf (j.val + 1)).length ≤ 9 ∧ (letOf (j.val + 1)).length ≤ 5 := by decide
theorem mk_size (l : List UInt8) : (⟨l.toArray⟩ : ByteArray).size = l.length := by simp [ByteArray.size]
set_option maxRecDepth 100000 in
set_option maxHeartbeats 1000000 in
theorem slcut_at (u v : List UInt8) (w : World) (hk : Lib.indexByte (u ++ 45 :: v) 45 = (u.length : Int)) (hu : u.length ≤ 50) (hv : v.length ≤ 40) :
    Calls Tryz.prog 128 #[.string ⟨(u ++ 45 :: v).toArray⟩, .string ⟨#[45]⟩] w fun e w' => e = .returned (.tuple #[.string ⟨u.toArray⟩, .string ⟨v.toArray⟩, .bool true]) ∧ Below w.heap.size w w' := by
  obtain ⟨s, hs⟩ : ∃ s : ByteArray, ⟨(u ++ 45 :: v).toArray⟩ = s := ⟨_, rfl⟩
  obtain ⟨k, hkk⟩ : ∃ k, u.length = k := ⟨_, rfl⟩
  have h1 : s.extract 0 k = ⟨u.toArray⟩ := by
    rw [← hs, Lib.extract_mk, ← hkk]
    simp
  have h2 : s.extract (k + 1) s.size = ⟨v.toArray⟩ := by
    rw [← hs, mk_size, Lib.extract_mk, ← hkk]
    have e : (u ++ 45 :: v).drop (u.length + 1) = v := by rw [List.drop_append, List.drop_eq_nil_of_le (by omega)]; simp
    rw [e, List.take_of_length_le (by simp; omega)]
  have hsz : s.size = k + 1 + v.length := by rw [← hs, mk_size, ← hkk]; simp; omega
  have hi : Lib.indexByte s.data.toList 45 = (k : Int) := by rw [← hs, ← hkk]; exact hk
  have H1 := Lib.hid h1
  have H2 := Lib.hid h2
  have hle : k + 1 ≤ s.size := by omega
  have hm : s.size ≤ 100 := by omega
  rw [hs]
  clear h1 h2 hk hs hsz hkk hu hv
  go_enter Tryz.func128, Tryz.ntmps128
  go_wp2_with fail
  refine (Tryz.stringslite_Index_one s 45 w).mono ?_
  rw [hi]
  rintro e w1 ⟨rfl, rfl⟩
  go_wp2_with fail
  go_quiet (fail)
  go_wp2
  exact bodyPost_ret (v := .tuple #[.string ⟨u.toArray⟩, .string ⟨v.toArray⟩, .bool true]) (by simp [results, Tryz.results128, go_sem, H1.out, H2.out]) rfl ⟨rfl, below_drewN _ _⟩
set_option maxRecDepth 100000 in
set_option maxHeartbeats 1000000 in
theorem cut_at (u v : List UInt8) (w : World) (hk : Lib.indexByte (u ++ 45 :: v) 45 = (u.length : Int)) (hu : u.length ≤ 50) (hv : v.length ≤ 40) :
    Calls Tryz.prog 75 #[.string ⟨(u ++ 45 :: v).toArray⟩, .string ⟨#[45]⟩] w fun e w' => e = .returned (.tuple #[.string ⟨u.toArray⟩, .string ⟨v.toArray⟩, .bool true]) ∧ Below w.heap.size w w' := by
  have HC := Lib.hid (slcut_at u v w hk hu hv)
  clear hk hu hv
  go_enter Tryz.func75, Tryz.ntmps75
  go_wp2_with fail
  refine HC.out.mono ?_
  rintro e w1 ⟨rfl, hb⟩
  have HB := Lib.hid hb
  clear hb
  go_wp2
  exact bodyPost_ret (v := .tuple #[.string ⟨u.toArray⟩, .string ⟨v.toArray⟩, .bool true]) (by simp [results, Tryz.results75, go_sem]) rfl ⟨rfl, HB.out⟩
set_option maxRecDepth 100000 in
set_option maxHeartbeats 1000000 in
theorem line_any (c : Nat) (hc : c < 256) (w : World) (ht : Blanks w) : Calls Tryz.prog 32 #[.int .u8 c] w fun e w' =>
    e = .returned (.tuple #[.string ⟨(wordOf c).toArray⟩, .string ⟨(letOf c).toArray⟩, .bool (isCode c)]) ∧ Below w.heap.size w w' := by
  have HT := Lib.hid ht
  clear ht
  by_cases h0 : c = 0 ∨ 20 < c
  · have HE := Lib.hid (show wordOf c = [] ∧ letOf c = [] ∧ isCode c = false by
      unfold wordOf letOf isCode
      rcases h0 with rfl | h
      · exact ⟨rfl, rfl, rfl⟩
      · rw [if_neg (by omega), if_neg (by omega), List.getD_eq_getElem?_getD, List.getElem?_eq_none (by simp [opTab]; omega)]
        exact ⟨rfl, rfl, by simp; omega⟩)
    rcases h0 with rfl | h
    all_goals
      go_enter Tryz.func32, Tryz.ntmps32
      go_wp2_with fail
      refine (Tryz.strings_Fields _ w (by decide) (ascii_of _ (by decide)) HT.out).mono ?_
      rintro e w1 ⟨rfl, rfl⟩
      generalize hF : Lib.fields _ = F
      have hFl : F.length = 20 := by rw [← hF]; exact of_decide_eq_true (by kernel_rfl)
      rw [hFl]
      have HB := Lib.hid ((Below.refl w.heap.size w).alloc (Nat.le_refl _) (.cells (F.map fun l => Value.string ⟨l.toArray⟩).toArray 9))
      generalize w.alloc (.cells (F.map fun l => Value.string ⟨l.toArray⟩).toArray 9) = W1 at HB ⊢
      clear hF hFl HT
      go_wp2
      exact bodyPost_ret (v := .tuple #[.string ⟨#[]⟩, .string ⟨#[]⟩, .bool false]) (by simp [results, Tryz.results32, go_sem]) rfl ⟨by rw [HE.out.1, HE.out.2.1, HE.out.2.2], HB.out⟩
  · obtain ⟨j, rfl⟩ : ∃ j, c = j + 1 := ⟨c - 1, by omega⟩
    have hj : j < 20 := by omega
    obtain ⟨r1, r2, r3, r4⟩ := opRows_at ⟨j, hj⟩
    dsimp only at r1 r2 r3 r4
    have HC := Lib.hid (fun w => cut_at (wordOf (j + 1)) (letOf (j + 1)) w r2 (by omega) (by omega))
    have HI := Lib.hid (show isCode (j + 1) = true by unfold isCode; simp; omega)
    have HR := Lib.hid r1
    have g0 : (((j + 1 : Nat) : Int) == 0) = false := by simp; omega
    have g0' : (((j : Int) + 1) == 0) = false := by simp; omega
    have g1 : ¬ ((20 : Int) < (j : Int) + 1) := by omega
    have g2 : ((j : Int) + 1 - 1) = j := by omega
    clear h0 r1 r2 r3 r4
    go_enter Tryz.func32, Tryz.ntmps32
    go_wp2_with fail
    refine (Tryz.strings_Fields _ w (by decide) (ascii_of _ (by decide)) HT.out).mono ?_
    rintro e w1 ⟨rfl, rfl⟩
    generalize hF : Lib.fields _ = F
    have hFl : F.length = 20 := by rw [← hF]; exact of_decide_eq_true (by kernel_rfl)
    have hF0 : F = opRows := by rw [← hF]; exact of_decide_eq_true (by kernel_rfl)
    rw [hFl]
    obtain ⟨sx, hsx⟩ : ∃ sx : ByteArray, ⟨(wordOf (j + 1) ++ 45 :: letOf (j + 1)).toArray⟩ = sx := ⟨_, rfl⟩
    have hcc : (w.alloc (.cells (F.map fun l => Value.string ⟨l.toArray⟩).toArray 9)).cell? ⟨w.heap.size, j, none⟩ = some (.string sx) := by
      rw [cells_at, hF0, ← hsx]
      simp [HR.out]
    rw [hsx] at HC
    have HB := Lib.hid ((Below.refl w.heap.size w).alloc (Nat.le_refl _) (.cells (F.map fun l => Value.string ⟨l.toArray⟩).toArray 9))
    generalize w.alloc (.cells (F.map fun l => Value.string ⟨l.toArray⟩).toArray 9) = W1 at hcc HB ⊢
    clear hF hFl hF0 HT hsx
    go_wp2_with fail
    refine (HC.out W1).mono ?_
    rintro e w2 ⟨rfl, hb⟩
    have HB2 := Lib.hid (bl HB.out HB.out.size hb)
    clear hb
    go_wp2
    exact bodyPost_ret (v := .tuple #[.string ⟨(wordOf (j + 1)).toArray⟩, .string ⟨(letOf (j + 1)).toArray⟩, .bool true]) (by simp [results, Tryz.results32, go_sem]) rfl ⟨by rw [HI.out], HB2.out⟩
end Go.Proofs.YtokpgopdkimmmaaGreatDoor
