/- The contracts of gridironref07.Errors, below and All. -/
import Derived.Test.YtjpemijonjmcdaaRefRight
import Derived.Test.YtjpemijonjmcdaaWords
namespace Go.Proofs.Ytjpemijonjmcdaa
open Go.RowKit
set_option linter.unusedVariables false

theorem own_below {W W' : World} {base : Nat} {e : TypeId} {size : Nat} {v : Value} {n : Nat} {xs : List Value} (h : W.ownsRow base e size v n xs) (hb : Below W.heap.size W W') : W'.ownsRow base e size v n xs :=
  ownsRow_block h (fun g hg => hb.block g (h.lt _ hg).2)
theorem own_one (w : World) (v : Value) (e : TypeId) {B : Nat} (hB : B ≤ w.heap.size) : (w.alloc (.cells #[v] e)).ownsRow B e 1 (.slice (some ⟨w.heap.size, 0, none⟩) 1 1) 1 [v] :=
  ⟨rfl, .inr ⟨w.heap.size, 1, #[v], rfl, hB, World.alloc_heap_new w _, Nat.le_refl _, by unfold maxLen; omega, rfl, rfl⟩⟩
theorem own_shape {W : World} {base : Nat} {e : TypeId} {size : Nat} {v : Value} {n : Nat} {xs : List Value} (h : W.ownsRow base e size v n xs) : ∃ a c, v = .slice a n c := by
  rcases h.2 with ⟨h1, h2⟩ | ⟨g, c, _, h, _⟩
  · exact ⟨none, 0, by rw [h1, h2]⟩
  · exact ⟨_, c, h⟩
theorem ints_one (xs : List Int) : ∀ u ∈ xs.map (Value.int .i64), u.oneCell' = true := by
  intro u hu
  obtain ⟨x, _, rfl⟩ := List.mem_map.1 hu
  rfl

/-- A list of places in memory of its own. -/
def IntsP (out : List Int) (w : World) (e : Ending) (w' : World) : Prop :=
  ∃ a c, e = .returned (.slice a out.length c) ∧ w'.ownsRow w.heap.size 3 1 (.slice a out.length c) out.length (out.map (.int .i64)) ∧ Below w.heap.size w w'

set_option maxRecDepth 100000 in
set_option maxHeartbeats 1000000 in
theorem errors_any (ns : List Nd) (ao : Option Addr) (cap : Nat) (root : Int) (w : World) (hrow : NdRow w ao ns) (hlen : ns.length ≤ 2513169434907) (hcap : ns.length ≤ cap) :
    Calls Try.prog 44 #[.slice ao ns.length cap, .int .i64 root] w fun e w' => e = .returned (.int .i64 (walkErr ns root)) ∧ Below w.heap.size w w' := by
  cases hr : rightL [] ns
  · have HE := Lib.hid (show walkErr ns root = 50 by unfold walkErr; rw [hr]; rfl)
    go_enter Try.func44, Try.ntmps44
    go_wp2_with (go_at_call 35; refine (rright_any ns ao cap _ hrow hlen hcap).mono ?_; rw [hr]; rintro e w1 ⟨rfl, hb1⟩; have HB1 := Lib.hid hb1; clear hb1)
    go_ret
    exact ⟨by rw [HE.out]; rfl, HB1.out⟩
  · by_cases h0 : root < 0
    · have HE := Lib.hid (show walkErr ns root = 2 by unfold walkErr; rw [if_pos hr, if_neg (by omega)])
      go_enter Try.func44, Try.ntmps44
      go_wp2_with (go_at_call 35; refine (rright_any ns ao cap _ hrow hlen hcap).mono ?_; rw [hr]; rintro e w1 ⟨rfl, hb1⟩; have HB1 := Lib.hid hb1; clear hb1)
      go_ret
      exact ⟨by rw [HE.out]; rfl, HB1.out⟩
    · have h0' : 0 ≤ root := by omega
      by_cases h1 : root < ns.length
      · have HE := Lib.hid (show walkErr ns root = 0 by unfold walkErr; rw [if_pos hr, if_pos ⟨h0', h1⟩])
        clear h0
        go_enter Try.func44, Try.ntmps44
        go_wp2_with (go_at_call 35; refine (rright_any ns ao cap _ hrow hlen hcap).mono ?_; rw [hr]; rintro e w1 ⟨rfl, hb1⟩; have HB1 := Lib.hid hb1; clear hb1)
        go_ret
        exact ⟨by rw [HE.out]; rfl, HB1.out⟩
      · have h1' : (ns.length : Int) ≤ root := by omega
        have HE := Lib.hid (show walkErr ns root = 2 by unfold walkErr; rw [if_pos hr, if_neg (by omega)])
        clear h0 h1
        go_enter Try.func44, Try.ntmps44
        go_wp2_with (go_at_call 35; refine (rright_any ns ao cap _ hrow hlen hcap).mono ?_; rw [hr]; rintro e w1 ⟨rfl, hb1⟩; have HB1 := Lib.hid hb1; clear hb1)
        go_ret
        exact ⟨by rw [HE.out]; rfl, HB1.out⟩

set_option maxRecDepth 100000 in
set_option maxHeartbeats 1000000 in
theorem rbelow_any (ns : List Nd) (ao : Option Addr) (cap : Nat) (hr : rightL [] ns = true) (hlen : ns.length ≤ 2513169434907) : ∀ (m : Nat) (x : Int), (x + 1).toNat < m → x < ns.length → ∀ w : World, NdRow w ao ns →
    Calls Try.prog 45 #[.slice ao ns.length cap, .int .i64 x] w (IntsP (below ns x) w) := by
  intro m
  induction m with
  | zero => intro x h; omega
  | succ m ih =>
    intro x hm hx w hrow
    by_cases h0 : x < 0
    · have HE := Lib.hid (show below ns x = [] from ent_neg ns _ x h0)
      clear ih hrow
      go_enter Try.func45, Try.ntmps45
      go_wp2
      go_ret
      exact ⟨none, 0, by rw [HE.out]; rfl, by rw [HE.out]; exact World.ownsRow_nil _ _ _ _, Below.refl _ _⟩
    · have h0' : 0 ≤ x := by omega
      obtain ⟨b, off, rfl, _, c1, c2, _⟩ := hrow.node x.toNat (by omega)
      have hb : b < w.heap.size := World.block_lt_of_cell? _ _ c1
      have hk := right_kidsOk hr x h0' hx
      have HE := Lib.hid (show below ns x = x :: (below ns (nd ns x).l ++ below ns (nd ns x).r) by unfold below; rw [ent_eq (right_kidsOk hr) _ x h0' hx]; rfl)
      have hbl := below_len hr x h0' hx
      rw [HE.out] at hbl
      rw [show ns.getD x.toNat Nd.zero = nd ns x from rfl] at c1 c2
      obtain ⟨n, hn⟩ : ∃ n, nd ns x = n := ⟨_, rfl⟩
      rw [hn] at c1 c2 hk HE hbl
      clear hn
      have IHL := Lib.hid (ih n.l (by omega) (by omega))
      have IHR := Lib.hid (ih n.r (by omega) (by omega))
      have HN := Lib.hid hrow
      clear ih hrow
      obtain ⟨L, hL⟩ : ∃ L, below ns n.l = L := ⟨_, rfl⟩
      obtain ⟨R, hR⟩ : ∃ R, below ns n.r = R := ⟨_, rfl⟩
      rw [hL] at HE IHL hbl
      rw [hR] at HE IHR hbl
      simp only [List.length_cons, List.length_append] at hbl
      clear hL hR hk h0
      obtain ⟨i0, hi, hzz, hz1, hz2⟩ := info_parts infoInt
      go_enter Try.func45, Try.ntmps45
      go_wp2_with fail
      have hb0 : Below w.heap.size w (w.alloc (.cells #[.int .i64 x] 3)) := (Below.refl _ _).alloc (Nat.le_refl _) _
      refine (IHL.out _ (HN.out.later hb0)).mono ?_
      rintro e w1 ⟨a1, k1, rfl, ho1, hb1⟩
      have hB1 := bl hb0 hb0.size hb1
      have OW := Lib.hid (own_below (own_one w (.int .i64 x) 3 (Nat.le_refl _)) hb1)
      have OL := Lib.hid (Reads.of_own ho1)
      have HB1 := Lib.hid hB1
      clear ho1 hb1 hB1 hb0
      go_wp2_with (at_builtin; refine wpList_append_any _ rfl (.tmp 9) (.tmp 16) 25 rfl w.heap.size 3 i0 (.int .i64 0) 1 8 Try.underlying25 hi hzz hz1 hz2 rfl (by decide) _ _ _ rfl OW.out _ _ _ _ _ rfl OL.out (ints_one _) (by unfold maxLen; omega) (by omega) HB1.out.size ?_)
      intro v2 w2 ho2 hg2 _
      obtain ⟨a2, k2, rfl⟩ := own_shape ho2
      have hB2 : Below w.heap.size w w2 := HB1.out.grown hg2 HB1.out.size (fun r hr => (OW.out.lt r hr).1)
      have HO2 := Lib.hid ho2
      have HB2 := Lib.hid hB2
      have d2 : w2.cell? ⟨b, off + x.toNat * 7 + 2, none⟩ = some (.int .i64 n.r) := (hB2.cell (p := ⟨b, _, none⟩) hb).trans c2
      clear ho2 hg2 hB2 c1 c2 OL OW HB1
      go_wp2_with fail
      refine (IHR.out _ (HN.out.later HB2.out)).mono ?_
      rintro e w3 ⟨a3, k3, rfl, ho3, hb3⟩
      have hB3 := bl HB2.out HB2.out.size hb3
      have O2 := Lib.hid (own_below HO2.out hb3)
      have OR := Lib.hid (Reads.of_own ho3)
      have HB3 := Lib.hid hB3
      clear ho3 hb3 hB3 HB2 HO2
      go_wp2_with (at_builtin; refine wpList_append_any _ rfl (.tmp 18) (.tmp 25) 25 rfl w.heap.size 3 i0 (.int .i64 0) 1 8 Try.underlying25 hi hzz hz1 hz2 rfl (by decide) _ _ _ rfl O2.out _ _ _ _ _ rfl OR.out (ints_one _) (by unfold maxLen; omega) (by omega) HB3.out.size ?_)
      intro v4 w4 ho4 hg4 _
      obtain ⟨a4, k4, rfl⟩ := own_shape ho4
      have HB4 := Lib.hid (HB3.out.grown hg4 HB3.out.size (fun r hr => (O2.out.lt r hr).1))
      have HO4 := Lib.hid ho4
      clear ho4 hg4
      go_wp2
      go_ret
      have he : (below ns x).length = 1 + L.length + R.length := by rw [HE.out]; simp only [List.length_cons, List.length_append]; omega
      refine ⟨a4, k4, by rw [he]; rfl, ?_, HB4.out⟩
      rw [he]
      have h := HO4.out
      rw [HE.out]
      simpa using h

set_option maxRecDepth 100000 in
set_option maxHeartbeats 1000000 in
theorem rall_any (ns : List Nd) (ao : Option Addr) (cap : Nat) (root : Int) (w : World) (hrow : NdRow w ao ns) (hlen : ns.length ≤ 2513169434907) (hcap : ns.length ≤ cap) :
    Calls Try.prog 17 #[.slice ao ns.length cap, .int .i64 root] w (IntsPost (walkErr ns root) (walkOut ns (fun _ => true) root) w) := by
  by_cases hg : rightL [] ns = true ∧ 0 ≤ root ∧ root < ns.length
  · have HE := Lib.hid (show walkErr ns root = 0 by unfold walkErr; rw [if_pos hg.1, if_pos hg.2])
    have HO := Lib.hid (show walkOut ns (fun _ => true) root = below ns root by unfold walkOut; rw [if_pos hg]; rfl)
    have HB := Lib.hid (rbelow_any ns ao cap hg.1 hlen ((root + 1).toNat + 1) root (by omega) hg.2.2)
    have HN := Lib.hid hrow
    clear hg hrow
    go_enter Try.func17, Try.ntmps17
    go_wp2_with fail
    refine (errors_any ns ao cap root _ HN.out hlen hcap).mono ?_
    rw [HE.out]
    rintro e w1 ⟨rfl, hb1⟩
    have HB1 := Lib.hid hb1
    clear hb1
    go_wp2_with fail
    refine (HB.out _ (HN.out.later HB1.out)).mono ?_
    rintro e w2 ⟨a, c, rfl, ho, hb2⟩
    have HB2 := Lib.hid (bl HB1.out HB1.out.size hb2)
    have HO2 := Lib.hid (ownsRow_mono ho HB1.out.size)
    clear ho hb2
    go_wp2
    go_ret2
    rw [HE.out, HO.out]
    exact ⟨a, c, rfl, HO2.out, HB2.out⟩
  · have HE := Lib.hid (show (walkErr ns root != 0) = true by unfold walkErr; split <;> (try split) <;> simp_all)
    have HO := Lib.hid (show walkOut ns (fun _ => true) root = [] by unfold walkOut; rw [if_neg hg])
    have HN := Lib.hid hrow
    clear hg hrow
    go_enter Try.func17, Try.ntmps17
    go_wp2_with fail
    refine (errors_any ns ao cap root _ HN.out hlen hcap).mono ?_
    rintro e w1 ⟨rfl, hb1⟩
    have HB1 := Lib.hid hb1
    clear hb1
    have hne := HE.out
    obtain ⟨er, her⟩ : ∃ er, walkErr ns root = er := ⟨_, rfl⟩
    rw [her] at hne ⊢
    have HER := Lib.hid her
    clear her
    go_wp2
    go_ret2
    rw [HO.out]
    exact ⟨none, 0, by rw [HER.out]; rfl, World.ownsRow_nil _ _ _ _, HB1.out⟩
end Go.Proofs.Ytjpemijonjmcdaa
