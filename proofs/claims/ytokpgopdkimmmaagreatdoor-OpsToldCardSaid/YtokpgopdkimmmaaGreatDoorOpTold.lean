/- ops.told: a word, and what letters say. -/
import Derived.Test.YtokpgopdkimmmaaGreatDoorOpFields
import Derived.Test.YtokpgopdkimmmaaGreatDoorDigits
import Derived.Lib.OthersKept
namespace Go.Proofs.YtokpgopdkimmmaaGreatDoor
open Go.RowKit
set_option linter.unusedVariables false
set_option linter.unusedSimpArgs false

/-- A letter of the table. -/
def LetB (c : UInt8) : Prop := c = 105 ∨ (97 ≤ c.toNat ∧ c.toNat ≤ 100)
def sayL (o : OpV) (c : UInt8) : List UInt8 := if c = 105 then idL o else numL o (c.toNat - 97)
def restL (o : OpV) : List UInt8 → List UInt8
  | [] => []
  | c :: ls => 32 :: sayL o c ++ restL o ls
def toldL (o : OpV) (word ls : List UInt8) : List UInt8 := word ++ restL o ls
theorem restL_snoc (o : OpV) (c : UInt8) : ∀ ls, restL o (ls ++ [c]) = restL o ls ++ (32 :: sayL o c)
  | [] => by simp [restL]
  | x :: ls => by simp only [List.cons_append, restL, restL_snoc o c ls]; simp
theorem nDig_le {n k : Nat} (h : n < 10 ^ k) (hk : 1 ≤ k) : Lib.nDigits n ≤ k := by
  obtain ⟨j, rfl⟩ : ∃ j, k = j + 1 := ⟨k - 1, by omega⟩
  have h2 := Lib.nDigits_unique j (10 ^ j) (Nat.le_refl _) (by rw [Nat.pow_succ]; have : 0 < 10 ^ j := Nat.pow_pos (by decide); omega)
  rcases Nat.lt_or_ge n (10 ^ j) with h3 | h3
  · have := nDigits_mono (Nat.le_of_lt h3); omega
  · rw [Lib.nDigits_unique j n h3 h]; exact Nat.le_refl _
theorem itoa_len {n : Int} (h : In64 n) : (Lib.itoa n).length ≤ 20 := by
  obtain ⟨h1, h2⟩ := h
  unfold Lib.itoa
  split
  · rw [List.length_cons, Lib.decDigits_length]
    have := nDig_le (n := n.natAbs) (k := 19) (Nat.lt_of_le_of_lt (show n.natAbs ≤ 9223372036854775808 by omega) (by decide)) (by decide)
    omega
  · rw [Lib.decDigits_length]
    have := nDig_le (n := n.toNat) (k := 19) (Nat.lt_of_le_of_lt (show n.toNat ≤ 9223372036854775808 by omega) (by decide)) (by decide)
    omega
theorem say_len {o : OpV} (ho : o.ok) (c : UInt8) : (sayL o c).length ≤ 20 := by
  unfold sayL
  split
  · unfold idL
    rw [Lib.decDigits_length]
    have := nDig_le (n := o.id) (k := 10) (Nat.lt_trans ho.id (by decide)) (by decide)
    omega
  · exact itoa_len (ho.num _)
theorem rest_len {o : OpV} (ho : o.ok) : ∀ ls, (restL o ls).length ≤ 21 * ls.length
  | [] => by simp [restL]
  | c :: ls => by
    have h1 := say_len ho c
    have h2 := rest_len ho ls
    simp only [restL, List.cons_append, List.length_cons, List.length_append]
    omega
theorem OpB.later {w w' : World} {b : Nat} {o : OpV} (h : OpB w b o) (hb : Below w.heap.size w w') : OpB w' b o := Blk.below h hb (Blk.lt h)
/-- What one letter says, whichever. -/
theorem get_any (b : Nat) (o : OpV) (ho : o.ok) (c : UInt8) (hc : LetB c) (w : World) (hb : OpB w b o) (ht : Tab64 w) :
    Calls Tryz.prog 37 #[fldV b, .int .i32 (c.toNat : Int)] w fun e w' => e = .returned (.string ⟨(sayL o c).toArray⟩) ∧ Below w.heap.size w w' := by
  rcases hc with rfl | ⟨h1, h2⟩
  · exact get_id b o ho w hb ht
  · obtain ⟨j, hj⟩ : ∃ j, c.toNat = 97 + j := ⟨c.toNat - 97, by omega⟩
    have h := get_num b j (by omega) o ho w hb ht
    have e : sayL o c = numL o j := by
      unfold sayL
      rw [if_neg (fun h => by subst h; have e : (105 : UInt8).toNat = 105 := rfl; omega), hj, Nat.add_sub_cancel_left]
    rw [e, hj]
    exact h
theorem cat_mk (a b : List UInt8) : (⟨a.toArray⟩ : ByteArray) ++ ⟨b.toArray⟩ = ⟨(a ++ b).toArray⟩ := by
  apply ByteArray.ext
  simp
set_option maxRecDepth 100000 in
set_option maxHeartbeats 2000000 in
theorem told_any (o : OpV) (ho : o.ok) (word ls : List UInt8) (hw : word.length ≤ 100) (hl : ls.length ≤ 10) (hls : ∀ c ∈ ls, LetB c) (w : World) (ht : Tab64 w) :
    Calls Tryz.prog 38 #[o.val, .string ⟨word.toArray⟩, .string ⟨ls.toArray⟩] w fun e w' => e = .returned (.string ⟨(toldL o word ls).toArray⟩) ∧ Below w.heap.size w w' := by
  obtain ⟨s, hs⟩ : ∃ s : ByteArray, ⟨ls.toArray⟩ = s := ⟨_, rfl⟩
  have hsz : s.size = ls.length := by rw [← hs, mk_size]
  have hat : ∀ (i : Nat) (h : i < s.size), ls[i]? = some s[i] := by
    intro i h
    subst hs
    exact Lib.getElem_mk ls i h
  have HT := Lib.hid ht
  rw [hs]
  clear ht
  go_enter Tryz.func38, Tryz.ntmps38
  go_wp2_with fail
  obtain ⟨b3, hb3⟩ : ∃ b, w.heap.size = b := ⟨_, rfl⟩
  have K3 := Lib.hid (show OpB ((w.alloc (.cells o.cells 24)).iter s 0) b3 o by rw [← hb3]; exact Blk.alloc (Blk.new w _ _) (.stringIter s 0))
  have HI := Lib.hid (show ((w.alloc (.cells o.cells 24)).iter s 0).heap[b3 + 1]? = some (.stringIter s 0) by
    rw [← hb3]
    have h := World.iter_heap (w.alloc (.cells o.cells 24)) s 0
    rw [World.size_alloc] at h
    exact h)
  have HB := Lib.hid (show Below w.heap.size w ((w.alloc (.cells o.cells 24)).iter s 0) from ((Below.refl w.heap.size w).alloc (Nat.le_refl _) _).alloc (by simp) (.stringIter s 0))
  have HG := Lib.hid (show w.heap.size ≤ b3 by omega)
  rw [hb3]
  generalize (w.alloc (.cells o.cells 24)).iter s 0 = V at K3 HI HB ⊢
  clear hb3
  go_loopw [1] (fun sv wr => ∃ pos : Nat, pos ≤ ls.length ∧ sv = .string ⟨(toldL o word (ls.take pos)).toArray⟩ ∧ Hid (wr.heap[b3 + 1]? = some (.stringIter s pos)) ∧ Hid (OpB wr b3 o) ∧ Hid (Below w.heap.size w wr)) (fun _ wr => s.size - wr.iterPos (b3 + 1))
  case atStart => exact ⟨0, Nat.zero_le _, by simp [toldL, restL], HI, K3, HB⟩
  case round =>
    clear HI K3 HB
    obtain ⟨pos, hpos, rfl, HI, K3, HB⟩ := hrel
    by_cases hp : pos < s.size
    · have hc := hat pos hp
      obtain ⟨c, hcc⟩ : ∃ c, s[pos] = c := ⟨_, rfl⟩
      rw [hcc] at hc
      have hL := hls c (List.mem_of_getElem? hc)
      have ha : (s[pos]'hp).toNat < 128 := by
        rw [hcc]
        rcases hL with rfl | ⟨_, h⟩
        · decide
        · omega
      have hnx : ∀ ty, (Instr.next (.pointer (some ⟨b3 + 1, 0, none⟩)) true ty).run Tryz.prog wr = .ok (.tuple #[.bool true, .int .i64 pos, .int .i32 (c.toNat : Int)]) (wr.iterAt (b3 + 1) s (pos + 1)) := fun ty => by
        rw [Lib.run_next_ascii_at wr (b3 + 1) s pos ty HI.out hp ha, hcc]
      have HI' := Lib.hid (Lib.iterAt_heap wr (b3 + 1) s pos (pos + 1) HI.out)
      have K3' := Lib.hid (show OpB (wr.iterAt (b3 + 1) s (pos + 1)) b3 o from (Lib.iterAt_other wr (b3 + 1) b3 s (pos + 1) (by omega)).trans K3.out)
      have HB' := Lib.hid (Lib.below_iterAt HB.out (k := b3 + 1) (by have := HG.out; omega) s (pos + 1))
      have hpl : pos < ls.length := by omega
      have HE := Lib.hid (show toldL o word (ls.take pos) ++ (32 :: sayL o c) = toldL o word (ls.take (pos + 1)) by
        unfold toldL
        rw [List.take_add_one, hc, Option.toList_some, restL_snoc, List.append_assoc])
      have hsay := say_len ho c
      have htl : (toldL o word (ls.take pos)).length ≤ 310 := by
        unfold toldL
        rw [List.length_append]
        have := rest_len ho (ls.take pos)
        rw [List.length_take] at this
        omega
      have HL := Lib.hid hL
      generalize wr.iterAt (b3 + 1) s (pos + 1) = W1 at hnx HI' K3' HB'
      have HP := Lib.hid (show wr.iterPos (b3 + 1) = pos by unfold World.iterPos; rw [HI.out])
      obtain ⟨tl, htl2⟩ : ∃ l, toldL o word (ls.take pos) = l := ⟨_, rfl⟩
      obtain ⟨sl, hsl⟩ : ∃ l, sayL o c = l := ⟨_, rfl⟩
      rw [htl2, hsl] at HE
      rw [htl2] at htl ⊢
      rw [hsl] at hsay
      have GC := Lib.hid (fun w hb ht => by have h := get_any b3 o ho c hL w hb ht; rw [hsl] at h; exact h)
      have hcat1 : (⟨#[32]⟩ : ByteArray) ++ ⟨sl.toArray⟩ = ⟨(32 :: sl).toArray⟩ := cat_mk [32] sl
      have hcat2 : (⟨tl.toArray⟩ : ByteArray) ++ ⟨(32 :: sl).toArray⟩ = ⟨(tl ++ 32 :: sl).toArray⟩ := cat_mk tl (32 :: sl)
      clear hc hL hcc ha htl2 hsl HI K3 HB
      go_wp2_with fail
      refine (GC.out _ K3'.out (Tab64.later HT.out HB'.out)).mono ?_
      rintro e w2 ⟨rfl, hb2⟩
      have K3 := Lib.hid (K3'.out.later hb2)
      have HI := Lib.hid ((hb2.block (b3 + 1) (Array.getElem?_eq_some_iff.1 HI'.out).1).trans HI'.out)
      have HB := Lib.hid (bl HB'.out HB'.out.size hb2)
      clear hb2 hnx K3' HI' HB' GC
      go_wp2_with fail
      refine ⟨⟨pos + 1, by omega, by rw [HE.out], HI, K3, HB⟩, ?_⟩
      rw [HP.out, show w2.iterPos (b3 + 1) = pos + 1 by unfold World.iterPos; rw [HI.out]]
      omega
    · have hnx : ∀ ty, (Instr.next (.pointer (some ⟨b3 + 1, 0, none⟩)) true ty).run Tryz.prog wr = _ := fun ty => Lib.run_next_end_at wr (b3 + 1) s pos ty HI.out hp
      have HE := Lib.hid (show toldL o word (ls.take pos) = toldL o word ls by rw [List.take_of_length_le (by omega)])
      go_wp2
      go_ret
      exact ⟨by rw [HE.out]; rfl, HB.out⟩
end Go.Proofs.YtokpgopdkimmmaaGreatDoor
