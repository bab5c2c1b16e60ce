/- The contracts of gridironref07.told and Leaves. -/
import Derived.Test.YtjpemijonjmcdaaRefBelow
namespace Go.Proofs.Ytjpemijonjmcdaa
open Go.RowKit
set_option linter.unusedVariables false

theorem right_leaf {ns : List Nd} (h : rightL [] ns = true) (x : Int) (h0 : 0 ≤ x) (hx : x < ns.length) (hk : (nd ns x).k = 1) : (nd ns x).l = -1 ∧ (nd ns x).r = -1 := by
  have hlt : x.toNat < ns.length := by omega
  have hm : mayB (nd ns x).k (nd ns x).l (nd ns x).r (ksFrom [] (ns.take x.toNat)) = true := by
    cases e : mayB (nd ns x).k (nd ns x).l (nd ns x).r (ksFrom [] (ns.take x.toNat)) with
    | true => rfl
    | false => rw [rightL_no ns x.toNat hlt e] at h; cases h
  unfold mayB at hm
  rw [if_pos hk] at hm
  simp only [Bool.and_eq_true, List.isEmpty_iff] at hm
  have := hm.2
  unfold kidsL at this
  by_cases hL : (nd ns x).l = -1 <;> by_cases hR : (nd ns x).r = -1 <;> simp_all

/-- What is told of a place. -/
def tOut (ns : List Nd) (a b : Int) (x : Int) : List Int := toldL ns a b (ent ns (overB ns a b) x)
def tCnt (ns : List Nd) (a b : Int) (x : Int) : Nat := (ent ns (overB ns a b) x).length
theorem t_neg (ns : List Nd) (a b x : Int) (h : x < 0) : tOut ns a b x = [] ∧ tCnt ns a b x = 0 := by unfold tOut tCnt; rw [ent_neg _ _ _ h]; exact ⟨rfl, rfl⟩
theorem t_no {ns : List Nd} (hk : KidsOk ns) (a b x : Int) (h0 : 0 ≤ x) (hx : x < ns.length) (hd : overB ns a b x = false) : tOut ns a b x = [] ∧ tCnt ns a b x = 1 := by
  unfold tOut tCnt; rw [ent_eq hk _ x h0 hx, hd]; simp [toldL, toldOne, hd]
theorem t_leaf {ns : List Nd} (h : rightL [] ns = true) (a b x : Int) (h0 : 0 ≤ x) (hx : x < ns.length) (hd : overB ns a b x = true) (hk : (nd ns x).k = 1) : tOut ns a b x = [(nd ns x).f] ∧ tCnt ns a b x = 1 := by
  obtain ⟨h1, h2⟩ := right_leaf h x h0 hx hk
  unfold tOut tCnt; rw [ent_eq (right_kidsOk h) _ x h0 hx, hd, h1, h2, ent_neg _ _ _ (by omega)]; simp [toldL, toldOne, hd, hk]
theorem t_inner {ns : List Nd} (hk : KidsOk ns) (a b x : Int) (h0 : 0 ≤ x) (hx : x < ns.length) (hd : overB ns a b x = true) (hn : (nd ns x).k ≠ 1) :
    tOut ns a b x = tOut ns a b (nd ns x).l ++ tOut ns a b (nd ns x).r ∧ tCnt ns a b x = 1 + tCnt ns a b (nd ns x).l + tCnt ns a b (nd ns x).r := by
  unfold tOut tCnt; rw [ent_eq hk _ x h0 hx, hd]
  simp only [if_true, List.length_cons, List.length_append]
  refine ⟨?_, by omega⟩
  unfold toldL
  rw [List.flatMap_cons, List.flatMap_append]
  have : toldOne ns a b x = [] := by unfold toldOne; rw [if_neg (fun h => hn h.2)]
  rw [this]; rfl
theorem t_len (ns : List Nd) (a b x : Int) : (tOut ns a b x).length ≤ tCnt ns a b x := toldL_len _ _ _ _

def ToldP (out : List Int) (n : Int) (w : World) (e : Ending) (w' : World) : Prop :=
  ∃ a c, e = .returned (.tuple #[.slice a out.length c, .int .i64 n]) ∧ w'.ownsRow w.heap.size 3 1 (.slice a out.length c) out.length (out.map (.int .i64)) ∧ Below w.heap.size w w'

set_option maxRecDepth 100000 in
set_option maxHeartbeats 1000000 in
theorem told_any (ns : List Nd) (ao : Option Addr) (cap : Nat) (from0 to0 : Int) (hr : rightL [] ns = true) (hlen : ns.length ≤ 2513169434907) : ∀ (m : Nat) (x : Int), (x + 1).toNat < m → x < ns.length → ∀ w : World, NdRow w ao ns →
    Calls Try.prog 47 #[.slice ao ns.length cap, .int .i64 x, .int .i64 from0, .int .i64 to0] w (ToldP (tOut ns from0 to0 x) (tCnt ns from0 to0 x) w) := by
  intro m
  induction m with
  | zero => intro x h; omega
  | succ m ih =>
    intro x hm hx w hrow
    by_cases h0 : x < 0
    · have HE := Lib.hid (t_neg ns from0 to0 x h0)
      clear ih hrow
      go_enter Try.func47, Try.ntmps47
      go_wp2
      go_ret2
      exact ⟨none, 0, by rw [HE.out.1, HE.out.2]; rfl, by rw [HE.out.1]; exact World.ownsRow_nil _ _ _ _, Below.refl _ _⟩
    · have h0' : 0 ≤ x := by omega
      obtain ⟨b, off, rfl, c0, c1, c2, c3, c4, c5, c6⟩ := hrow.node x.toNat (by omega)
      have hb : b < w.heap.size := World.block_lt_of_cell? _ _ c1
      have hk := right_kidsOk hr x h0' hx
      rw [show ns.getD x.toNat Nd.zero = nd ns x from rfl] at c0 c1 c2 c3 c4 c5 c6
      have HNO := Lib.hid (t_no (right_kidsOk hr) from0 to0 x h0' hx)
      have HLF := Lib.hid (t_leaf hr from0 to0 x h0' hx)
      have HIN := Lib.hid (t_inner (right_kidsOk hr) from0 to0 x h0' hx)
      have HOV := Lib.hid (show overB ns from0 to0 x = !(decide ((nd ns x).t ≤ from0) || decide (to0 ≤ (nd ns x).f)) from rfl)
      have hen := ent_len_le hr (overB ns from0 to0) x h0' hx
      have hbA : ∀ o, Below w.heap.size w (w.alloc o) := fun o => (Below.refl _ _).alloc (Nat.le_refl _) o
      have HBA := Lib.hid hbA
      clear hbA
      obtain ⟨n, hn⟩ : ∃ n, nd ns x = n := ⟨_, rfl⟩
      rw [hn] at c0 c1 c2 c3 c4 c5 c6 hk HLF HIN HOV
      clear hn h0
      by_cases ht : n.t ≤ from0
      · have HX := Lib.hid (HNO.out (by rw [HOV.out, decide_eq_true ht]; rfl))
        clear ih hrow hk HLF HIN HNO
        go_enter Try.func47, Try.ntmps47
        go_wp2
        go_ret2
        exact ⟨none, 0, by rw [HX.out.1, HX.out.2]; rfl, by rw [HX.out.1]; exact World.ownsRow_nil _ _ _ _, HBA.out _⟩
      · have ht' : from0 < n.t := by omega
        by_cases hf : to0 ≤ n.f
        · have HX := Lib.hid (HNO.out (by rw [HOV.out, decide_eq_true hf]; simp))
          have hfd : decide (n.f < to0) = false := by simpa using hf
          clear ih hrow hk HLF HIN HNO ht
          go_enter Try.func47, Try.ntmps47
          go_wp2
          go_ret2
          exact ⟨none, 0, by rw [HX.out.1, HX.out.2]; rfl, by rw [HX.out.1]; exact World.ownsRow_nil _ _ _ _, HBA.out _⟩
        · have hf' : n.f < to0 := by omega
          have hov : overB ns from0 to0 x = true := by rw [HOV.out, decide_eq_false ht, decide_eq_false hf]; rfl
          clear ht hf
          by_cases hk1 : n.k = 1
          · have hkb : (n.k == 1) = true := by simpa using hk1
            have HX := Lib.hid (HLF.out hov hk1)
            clear ih hrow hk HLF HIN HNO hk1 hov
            go_enter Try.func47, Try.ntmps47
            go_wp2
            go_ret2
            have hw1 := HBA.out (.cells #[.int .u8 n.k, .int .i64 n.l, .int .i64 n.r, .int .i64 n.f, .int .i64 n.t, .int .i64 n.a, .int .i64 n.i] 36)
            refine ⟨some ⟨w.heap.size + 1, 0, none⟩, 1, by rw [HX.out.1, HX.out.2]; rfl, ?_, hw1.alloc hw1.size _⟩
            rw [HX.out.1]
            have h := own_one (w.alloc (.cells #[.int .u8 n.k, .int .i64 n.l, .int .i64 n.r, .int .i64 n.f, .int .i64 n.t, .int .i64 n.a, .int .i64 n.i] 36)) (.int .i64 n.f) 3 hw1.size
            rw [World.size_alloc] at h
            exact h
          · have hkb : (n.k == 1) = false := by simpa using hk1
            have HX := Lib.hid (HIN.out hov hk1)
            have IHL := Lib.hid (ih n.l (by omega) (by omega))
            have IHR := Lib.hid (ih n.r (by omega) (by omega))
            have hlL := t_len ns from0 to0 n.l
            have hlR := t_len ns from0 to0 n.r
            have hcn : tCnt ns from0 to0 n.l + tCnt ns from0 to0 n.r ≤ 2513169434907 := by have := HX.out.2; unfold tCnt at this ⊢; omega
            have HN := Lib.hid hrow
            clear ih hrow hk HLF HIN HNO hk1 hov hen
            obtain ⟨L, hL⟩ : ∃ L, tOut ns from0 to0 n.l = L := ⟨_, rfl⟩
            obtain ⟨R, hR⟩ : ∃ R, tOut ns from0 to0 n.r = R := ⟨_, rfl⟩
            obtain ⟨cl, hcl⟩ : ∃ cl, tCnt ns from0 to0 n.l = cl := ⟨_, rfl⟩
            obtain ⟨cr, hcr⟩ : ∃ cr, tCnt ns from0 to0 n.r = cr := ⟨_, rfl⟩
            rw [hL, hcl] at hlL IHL
            rw [hR, hcr] at hlR IHR
            rw [hcl, hcr] at hcn
            rw [hL, hR, hcl, hcr] at HX
            clear hL hR hcl hcr
            obtain ⟨i0, hi, hzz, hz1, hz2⟩ := info_parts infoInt
            go_enter Try.func47, Try.ntmps47
            go_wp2_with fail
            have hb0 := HBA.out (.cells #[.int .u8 n.k, .int .i64 n.l, .int .i64 n.r, .int .i64 n.f, .int .i64 n.t, .int .i64 n.a, .int .i64 n.i] 36)
            refine (IHL.out _ (HN.out.later hb0)).mono ?_
            rintro e w1 ⟨a1, k1, rfl, ho1, hb1⟩
            have hc1 : w1.cell? ⟨w.heap.size, 2, none⟩ = some (.int .i64 n.r) := (hb1.cell (p := ⟨w.heap.size, 2, none⟩) (by simp)).trans (cells_at w _ _ 2)
            have HB1 := Lib.hid (bl hb0 hb0.size hb1)
            have HO1 := Lib.hid (ownsRow_mono ho1 hb0.size)
            clear ho1 hb1 hb0
            go_wp2_with fail
            refine (IHR.out _ (HN.out.later HB1.out)).mono ?_
            rintro e w3 ⟨a3, k3, rfl, ho3, hb3⟩
            have O2 := Lib.hid (own_below HO1.out hb3)
            have OR := Lib.hid (Reads.of_own ho3)
            have HB3 := Lib.hid (bl HB1.out HB1.out.size hb3)
            clear ho3 hb3 hc1
            go_wp2_with (at_builtin; refine wpList_append_any _ rfl (.tmp 57) (.tmp 58) 25 rfl w.heap.size 3 i0 (.int .i64 0) 1 8 Try.underlying25 hi hzz hz1 hz2 rfl (by decide) _ _ _ rfl O2.out _ _ _ _ _ rfl OR.out (ints_one _) (by unfold maxLen; omega) (by omega) HB3.out.size ?_)
            intro v4 w4 ho4 hg4 _
            obtain ⟨a4, k4, rfl⟩ := own_shape ho4
            have HB4 := Lib.hid (HB3.out.grown hg4 HB3.out.size (fun r hr => (O2.out.lt r hr).1))
            have HO4 := Lib.hid ho4
            clear ho4 hg4
            go_wp2
            go_ret2
            have he : (tOut ns from0 to0 x).length = L.length + R.length := by rw [HX.out.1]; simp
            refine ⟨a4, k4, by rw [he, HX.out.2]; simp, ?_, HB4.out⟩
            rw [he]
            have h := HO4.out
            rw [HX.out.1]
            simpa using h

set_option maxRecDepth 100000 in
set_option maxHeartbeats 1000000 in
theorem rleaves_any (ns : List Nd) (ao : Option Addr) (cap : Nat) (root from0 to0 : Int) (w : World) (hrow : NdRow w ao ns) (hlen : ns.length ≤ 2513169434907) (hcap : ns.length ≤ cap) :
    Calls Try.prog 20 #[.slice ao ns.length cap, .int .i64 root, .int .i64 from0, .int .i64 to0] w (LeavesPost (walkErr ns root) (toldL ns from0 to0 (walkOut ns (overB ns from0 to0) root)) (walkOut ns (overB ns from0 to0) root).length w) := by
  by_cases hg : rightL [] ns = true ∧ 0 ≤ root ∧ root < ns.length
  · have HE := Lib.hid (show walkErr ns root = 0 by unfold walkErr; rw [if_pos hg.1, if_pos hg.2])
    have HO := Lib.hid (show walkOut ns (overB ns from0 to0) root = ent ns (overB ns from0 to0) root by unfold walkOut; rw [if_pos hg])
    have HB := Lib.hid (told_any ns ao cap from0 to0 hg.1 hlen ((root + 1).toNat + 1) root (by omega) hg.2.2)
    have HN := Lib.hid hrow
    clear hg hrow
    go_enter Try.func20, Try.ntmps20
    go_wp2_with fail
    refine (errors_any ns ao cap root _ HN.out hlen hcap).mono ?_
    rw [HE.out]
    rintro e w1 ⟨rfl, hb1⟩
    have HB1 := Lib.hid hb1
    clear hb1
    go_wp2_with fail
    refine (HB.out _ (HN.out.later HB1.out)).mono ?_
    rintro e w2 ⟨a, c, rfl, ho, hb2⟩
    have HB2 := Lib.hid (bl HB1.out HB1.out.size hb2)
    have HO2 := Lib.hid (ownsRow_mono ho HB1.out.size)
    clear ho hb2
    go_wp2
    go_ret3
    rw [HE.out, HO.out]
    exact ⟨a, c, rfl, HO2.out, HB2.out⟩
  · have HE := Lib.hid (show (walkErr ns root != 0) = true by unfold walkErr; split <;> (try split) <;> simp_all)
    have HO := Lib.hid (show walkOut ns (overB ns from0 to0) root = [] by unfold walkOut; rw [if_neg hg])
    have HN := Lib.hid hrow
    clear hg hrow
    go_enter Try.func20, Try.ntmps20
    go_wp2_with fail
    refine (errors_any ns ao cap root _ HN.out hlen hcap).mono ?_
    rintro e w1 ⟨rfl, hb1⟩
    have HB1 := Lib.hid hb1
    clear hb1
    have hne := HE.out
    obtain ⟨er, her⟩ : ∃ er, walkErr ns root = er := ⟨_, rfl⟩
    rw [her] at hne ⊢
    have HER := Lib.hid her
    clear her
    go_wp2
    go_ret3
    rw [HO.out]
    exact ⟨none, 0, by rw [HER.out]; rfl, World.ownsRow_nil _ _ _ _, HB1.out⟩
end Go.Proofs.Ytjpemijonjmcdaa
