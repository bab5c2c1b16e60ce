/- The walk of StackTells. -/
import Derived.Test.YtjpemijonjmcdaaStackAwake
namespace Go.Proofs.Ytjpemijonjmcdaa
open Go.RowKit
set_option linter.unusedVariables false

set_option maxRecDepth 100000 in
set_option maxHeartbeats 2000000 in
theorem StackTells_walk (ns : List Nd) (ao : Option Addr) (cap : Nat) (root from0 to0 : Int) (W : World) (hrow : NdRow W ao ns) (hlen : ns.length ≤ 2513169434907) (hcap : ns.length ≤ cap) :
    Calls Try.prog 3 #[.slice ao ns.length cap, .int .i64 root, .int .i64 from0, .int .i64 to0] W fun e w' => e = .returned (.bool true) ∧ Below W.heap.size W w' := by
  by_cases hn : 60 < ns.length
  · clear hrow
    go_enter Try.func3, Try.ntmps3
    go_wp2_with (go_at_call 14; refine (awake7_any _).mono ?_; rintro e w1 ⟨rfl, hb1⟩; have HB1 := Lib.hid hb1; clear hb1)
    go_ret
    exact ⟨rfl, HB1.out⟩
  · have HN := Lib.hid hrow
    clear hrow
    obtain ⟨er, her⟩ : ∃ er, walkErr ns root = er := ⟨_, rfl⟩
    have HER := Lib.hid her
    clear her
    go_enter Try.func3, Try.ntmps3
    go_wp2_with fail
    refine (copyNodes_any ns ao cap _ HN.out hlen).mono ?_
    rintro e w1 ⟨a1, c1, rfl, ho1, hb1⟩
    have HI1 := Lib.hid (row_of_nodes ho1 rfl)
    have HB1 := Lib.hid hb1
    clear ho1 hb1
    go_wp2_with fail
    refine (all_any ns a1 c1 root _ HI1.out hlen).mono ?_
    rw [HER.out]
    rintro e w2 ⟨a2, c2, rfl, ho2, hb2⟩
    have HI2 := Lib.hid (HI1.out.later hb2)
    have HB2 := Lib.hid (bl HB1.out HB1.out.size hb2)
    have R2 := Lib.hid (row_of_owned ho2)
    clear ho2 hb2
    go_wp2_with fail
    refine (rall_any ns ao cap root _ (HN.out.later HB2.out) hlen hcap).mono ?_
    rw [HER.out]
    rintro e w3 ⟨a3, c3, rfl, ho3, hb3⟩
    have HI3 := Lib.hid (HI2.out.later hb3)
    have HB3 := Lib.hid (bl HB2.out HB2.out.size hb3)
    have R2' := Lib.hid (R2.out.later hb3)
    have R3 := Lib.hid (row_of_owned ho3)
    have hol : (walkOut ns (fun _ => true) root).length ≤ maxLen := by
      unfold walkOut maxLen
      split
      · rename_i h; have := ent_len_le h.1 (fun _ => true) root h.2.1 h.2.2; omega
      · simp
    have hol2 : (walkOut ns (overB ns from0 to0) root).length ≤ maxLen := by
      unfold walkOut maxLen
      split
      · rename_i h; have := ent_len_le h.1 (overB ns from0 to0) root h.2.1 h.2.2; omega
      · simp
    have hol3 := toldL_len ns from0 to0 (walkOut ns (overB ns from0 to0) root)
    have HL := Lib.hid (And.intro hol (Nat.le_trans hol3 hol2))
    clear ho3 hb3 hol hol2 hol3
    obtain ⟨out, hout⟩ : ∃ out, walkOut ns (fun _ => true) root = out := ⟨_, rfl⟩
    rw [hout] at HL R2' R3 ⊢
    clear hout
    go_wp2_with fail
    refine (ints_any out out a2 a3 c2 c3 _ R2'.out R3.out HL.out.1 HL.out.1).mono ?_
    rw [show sameB out out = true from decide_eq_true rfl]
    rintro e w4 ⟨rfl, hb4⟩
    have HI4 := Lib.hid (HI3.out.later hb4)
    have HB4 := Lib.hid (bl HB3.out HB3.out.size hb4)
    clear hb4
    go_wp2_with fail
    refine (leaves_any ns a1 c1 root from0 to0 _ HI4.out hlen).mono ?_
    rw [HER.out]
    rintro e w5 ⟨a5, c5, rfl, ho5, hb5⟩
    have HI5 := Lib.hid (HI4.out.later hb5)
    have HB5 := Lib.hid (bl HB4.out HB4.out.size hb5)
    have R5 := Lib.hid (row_of_owned ho5)
    clear ho5 hb5
    go_wp2_with fail
    refine (rleaves_any ns ao cap root from0 to0 _ (HN.out.later HB5.out) hlen hcap).mono ?_
    rw [HER.out]
    rintro e w6 ⟨a6, c6, rfl, ho6, hb6⟩
    have HI6 := Lib.hid (HI5.out.later hb6)
    have HB6 := Lib.hid (bl HB5.out HB5.out.size hb6)
    have R5' := Lib.hid (R5.out.later hb6)
    have R6 := Lib.hid (row_of_owned ho6)
    clear ho6 hb6
    obtain ⟨cnt, hcnt⟩ : ∃ cnt, (walkOut ns (overB ns from0 to0) root).length = cnt := ⟨_, rfl⟩
    obtain ⟨tl, htl⟩ : ∃ tl, toldL ns from0 to0 (walkOut ns (overB ns from0 to0) root) = tl := ⟨_, rfl⟩
    rw [hcnt]
    rw [htl] at R5' R6 HL ⊢
    clear hcnt htl
    go_wp2_with fail
    refine (ints_any tl tl a5 a6 c5 c6 _ R5'.out R6.out HL.out.2 HL.out.2).mono ?_
    rw [show sameB tl tl = true from decide_eq_true rfl]
    rintro e w7 ⟨rfl, hb7⟩
    have HI7 := Lib.hid (HI6.out.later hb7)
    have HB7 := Lib.hid (bl HB6.out HB6.out.size hb7)
    clear hb7
    go_wp2_with fail
    refine (nodes_any ns ns a1 ao c1 cap _ HI7.out (HN.out.later HB7.out) hlen hlen).mono ?_
    rw [(sameN_iff ns ns).2 rfl]
    rintro e w8 ⟨rfl, hb8⟩
    have HB8 := Lib.hid (bl HB7.out HB7.out.size hb8)
    clear hb8
    go_wp2_with fail
    refine (awake7_any _).mono ?_
    rintro e w9 ⟨rfl, hb9⟩
    have HB9 := Lib.hid (bl HB8.out HB8.out.size hb9)
    clear hb9
    go_wp2
    go_ret
    exact ⟨rfl, HB9.out⟩
end Go.Proofs.Ytjpemijonjmcdaa
