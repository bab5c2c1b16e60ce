/- The contract of stack.walk: of right nodes the closure is called with the places that a walk enters, in its order. -/
import Derived.Test.YtjpemijonjmcdaaWalkSt
import Derived.Test.YtjpemijonjmcdaaPoolRight
import Derived.Deep.LoopGhost
namespace Go.Proofs.Ytjpemijonjmcdaa
open Go.RowKit
set_option linter.unusedVariables false

/-- What a walk answers. -/
def walkErr (ns : List Nd) (root : Int) : Int := if rightL [] ns = true then (if 0 ≤ root ∧ root < ns.length then 0 else 2) else 50
def walkOut (ns : List Nd) (d : Int → Bool) (root : Int) : List Int := if rightL [] ns = true ∧ 0 ≤ root ∧ root < ns.length then ent ns d root else []
def WalkPost (J : List Nat → List Int → World → Prop) (fp0 : List Nat) (err : Int) (out : List Int) (w : World) (e : Ending) (w' : World) : Prop :=
  ∃ fp, e = .returned (.int .i64 err) ∧ J fp out w' ∧ ChgOnly fp0 w w' ∧ ∀ b ∈ fp, b ∈ fp0 ∨ w.heap.size ≤ b
theorem NdRow.chg {w w' : World} {ao : Option Addr} {ns : List Nd} {fp : List Nat} (h : NdRow w ao ns) (hc : ChgOnly fp w w') (ha : ∀ a, ao = some a → a.block ∉ fp) : NdRow w' ao ns := by
  rcases h with h | ⟨b, off, rfl, h⟩
  · exact .inl h
  · refine .inr ⟨b, off, rfl, fun i hi j hj => ?_⟩
    have h1 := h i hi j hj
    have h2 : (ns.getD i Nd.zero).cells[j]? = some ((ns.getD i Nd.zero).cells[j]'(by simpa [Nd.cells] using hj)) := Array.getElem?_eq_getElem _
    rw [h2] at h1 ⊢
    exact (World.cell?_of_block (w := w) (hc.block b (World.block_lt_of_cell? _ _ h1) (ha _ rfl))).trans h1
/-- The seven cells of a node. -/
theorem NdRow.node {w : World} {ao : Option Addr} {ns : List Nd} (h : NdRow w ao ns) (k : Nat) (hk : k < ns.length) : ∃ b off, ao = some ⟨b, off, none⟩ ∧
    w.cell? ⟨b, off + k * 7, none⟩ = some (.int .u8 (ns.getD k Nd.zero).k) ∧ w.cell? ⟨b, off + k * 7 + 1, none⟩ = some (.int .i64 (ns.getD k Nd.zero).l) ∧ w.cell? ⟨b, off + k * 7 + 2, none⟩ = some (.int .i64 (ns.getD k Nd.zero).r) ∧
    w.cell? ⟨b, off + k * 7 + 3, none⟩ = some (.int .i64 (ns.getD k Nd.zero).f) ∧ w.cell? ⟨b, off + k * 7 + 4, none⟩ = some (.int .i64 (ns.getD k Nd.zero).t) ∧ w.cell? ⟨b, off + k * 7 + 5, none⟩ = some (.int .i64 (ns.getD k Nd.zero).a) ∧ w.cell? ⟨b, off + k * 7 + 6, none⟩ = some (.int .i64 (ns.getD k Nd.zero).i) := by
  rcases h with h | ⟨b, off, e, hc⟩
  · subst h; simp at hk
  · exact ⟨b, off, e, hc k hk 0 (by omega), hc k hk 1 (by omega), hc k hk 2 (by omega), hc k hk 3 (by omega), hc k hk 4 (by omega), hc k hk 5 (by omega), hc k hk 6 (by omega)⟩
theorem infoInt : (Try.prog.info? 3).map (fun i => (i.zero, i.size, i.bytes)) = some (some (.int .i64 0), 1, 8) := by kernel_rfl

set_option maxRecDepth 100000 in
set_option maxHeartbeats 1000000 in
theorem walk_bad (ns : List Nd) (ao : Option Addr) (cap : Nat) (root : Int) (gf : Nat) (caps : Array Value) (d : Int → Bool) (J : List Nat → List Int → World → Prop) (on : OnSpec Try.prog gf caps d ns J) (fp0 : List Nat)
    (w : World) (hrow : NdRow w ao ns) (hlen : ns.length ≤ 2513169434907) (hj : J fp0 [] w) (hb : ¬ (rightL [] ns = true ∧ 0 ≤ root ∧ root < ns.length)) :
    Calls Try.prog 42 #[.slice ao ns.length cap, .int .i64 root, .func (.func gf) #[] caps] w (WalkPost J fp0 (walkErr ns root) (walkOut ns d root) w) := by
  have HO := Lib.hid (show walkOut ns d root = [] by unfold walkOut; rw [if_neg hb])
  have fin : ∀ w', Below w.heap.size w w' → J fp0 [] w' := fun w' h => on.keep _ _ _ _ hj h.size (fun b hb => h.block b (on.lt _ _ _ hj b hb))
  have HF := Lib.hid fin
  clear fin
  cases hr : rightL [] ns
  · have HE := Lib.hid (show walkErr ns root = 50 by unfold walkErr; rw [hr]; rfl)
    clear hb hj
    go_enter Try.func42, Try.ntmps42
    go_wp2_with (go_at_call 22; refine (right_any ns ao cap _ hrow hlen).mono ?_; rw [hr]; rintro e w1 ⟨rfl, hb1⟩; have HB1 := Lib.hid hb1; clear hb1)
    go_ret
    exact ⟨fp0, by rw [HE.out]; rfl, by rw [HO.out]; exact HF.out _ HB1.out, .below HB1.out _, fun b hb => .inl hb⟩
  · have hbd : ¬ (0 ≤ root ∧ root < ns.length) := fun h => hb ⟨hr, h⟩
    have HE := Lib.hid (show walkErr ns root = 2 by unfold walkErr; rw [if_pos hr, if_neg hbd])
    clear hb hj
    by_cases h0 : root < 0
    · go_enter Try.func42, Try.ntmps42
      go_wp2_with (go_at_call 22; refine (right_any ns ao cap _ hrow hlen).mono ?_; rw [hr]; rintro e w1 ⟨rfl, hb1⟩; have HB1 := Lib.hid hb1; clear hb1)
      go_ret
      exact ⟨fp0, by rw [HE.out]; rfl, by rw [HO.out]; exact HF.out _ HB1.out, .below HB1.out _, fun b hb => .inl hb⟩
    · have h1 : (ns.length : Int) ≤ root := by omega
      go_enter Try.func42, Try.ntmps42
      go_wp2_with (go_at_call 22; refine (right_any ns ao cap _ hrow hlen).mono ?_; rw [hr]; rintro e w1 ⟨rfl, hb1⟩; have HB1 := Lib.hid hb1; clear hb1)
      go_ret
      exact ⟨fp0, by rw [HE.out]; rfl, by rw [HO.out]; exact HF.out _ HB1.out, .below HB1.out _, fun b hb => .inl hb⟩

set_option maxRecDepth 100000 in
set_option maxHeartbeats 2000000 in
theorem walk_good (ns : List Nd) (ao : Option Addr) (cap : Nat) (root : Int) (gf : Nat) (caps : Array Value) (d : Int → Bool) (J : List Nat → List Int → World → Prop) (on : OnSpec Try.prog gf caps d ns J) (fp0 : List Nat)
    (heg : ∀ args w, (callFunc gf args).run Try.prog w = .ok (.enter gf args) w)
    (w : World) (hrow : NdRow w ao ns) (hlen : ns.length ≤ 2513169434907) (hj : J fp0 [] w) (hap : ∀ a, ao = some a → a.block ∉ fp0) (hr : rightL [] ns = true) (h0 : 0 ≤ root) (h1 : root < ns.length) :
    Calls Try.prog 42 #[.slice ao ns.length cap, .int .i64 root, .func (.func gf) #[] caps] w (WalkPost J fp0 (walkErr ns root) (walkOut ns d root) w) := by
  have HO := Lib.hid (show walkOut ns d root = ent ns d root by unfold walkOut; rw [if_pos ⟨hr, h0, h1⟩])
  have HE := Lib.hid (show walkErr ns root = 0 by unfold walkErr; rw [if_pos hr, if_pos ⟨h0, h1⟩])
  have hko := right_kidsOk hr
  have hlenE := ent_len_le hr d root h0 h1
  go_enter Try.func42, Try.ntmps42
  go_wp2_with (go_at_call 22; refine (right_any ns ao cap _ hrow hlen).mono ?_; rw [hr]; rintro e w1 ⟨rfl, hb1⟩; have HB1 := Lib.hid hb1; clear hb1)
  have HJ := Lib.hid (on.keep _ _ _ _ hj HB1.out.size (fun b hb => HB1.out.block b (on.lt _ _ _ hj b hb)))
  have HL := Lib.hid (on.lt _ _ _ hj)
  have HR := Lib.hid hr
  have HN := Lib.hid hrow
  have HA := Lib.hid hap
  have HK := Lib.hid hko
  clear hj hr hrow hap hko
  go_loopg [7, 8, 9, 11] (ent ns d root).length (fun g kd _ _ _ wr => ∃ st pre fp a c, kd = .slice a st.length c ∧ WSt J fp0 root 3 w (.slice a st.length c) st pre fp wr ∧ Hid (pre ++ st.flatMap (ent ns d) = ent ns d root) ∧ Hid (g = (st.flatMap (ent ns d)).length))
  case atStart =>
    refine ⟨[root], [], fp0, some ⟨w1.heap.size, 0, none⟩, 1, rfl, ?_, Lib.hid (by simp), Lib.hid (by simp)⟩
    have hs := HB1.out.size
    refine ⟨⟨by simp, .inr ⟨w1.heap.size, 1, #[.int .i64 root], rfl, hs, World.alloc_heap_new w1 _, Nat.le_refl _, by unfold maxLen; omega, rfl, rfl⟩⟩, ?_, ?_, fun b hb => .inl hb, ?_, ⟨h0, by simp, trivial⟩⟩
    · exact on.keep _ _ _ _ HJ.out (by simp) (fun b hb => Below.heap_alloc _ _ _ (Nat.lt_of_lt_of_le (HL.out b hb) hs))
    · intro g hg hm
      simp [Value.ownBlock] at hg
      subst hg
      have := HL.out _ hm
      omega
    · exact .below (HB1.out.alloc hs _) _
  case round =>
    obtain ⟨st, pre, fp, sa, sc, rfl, hW, HP, HG⟩ := hrel
    cases st with
    | nil =>
      have HW := Lib.hid hW
      clear hW
      go_wp2
      go_ret
      refine ⟨fp, by rw [HE.out]; rfl, ?_, HW.out.chg, HW.out.fpn⟩
      have h := HP.out
      simp only [List.flatMap_nil, List.append_nil] at h
      rw [HO.out, ← h]
      exact HW.out.j
    | cons x st' =>
      obtain ⟨g, rfl⟩ : ∃ g, sa = some ⟨g, 0, none⟩ := by
        rcases hW.own.2 with ⟨_, h⟩ | ⟨g, _, _, h, _⟩
        · simp at h
        · simp only [Value.slice.injEq] at h; exact ⟨g, h.1⟩
      have hx0 := hW.ok.1
      have hx1 := hW.ok.2.1
      have hcell : wr.cell? ⟨g, st'.length, none⟩ = some (.int .i64 x) := by
        rw [hW.own.cellAt st'.length (by simp)]; simp
      have hxn : x < ns.length := by omega
      have hN := HN.out.chg hW.chg HA.out
      obtain ⟨b, off, rfl, c0, c1, c2, c3, c4, c5, c6⟩ := hN.node x.toNat (by omega)
      obtain ⟨n, hn⟩ : ∃ n, nd ns x = n := ⟨_, rfl⟩
      rw [show ns.getD x.toNat Nd.zero = n from hn] at c0 c1 c2 c3 c4 c5 c6
      have HND := Lib.hid hn
      have hsc : st'.length + 1 ≤ sc := by
        rcases hW.own.2 with ⟨h, _⟩ | ⟨g', c', _, h, _, _, h2, _⟩
        · simp at h
        · simp only [Value.slice.injEq] at h; obtain ⟨_, _, rfl⟩ := h; simpa using h2
      have hWa := hW.alloc on (.cells #[.int .u8 n.k, .int .i64 n.l, .int .i64 n.r, .int .i64 n.f, .int .i64 n.t, .int .i64 n.a, .int .i64 n.i] 36)
      have hee := ent_eq HK.out d x hx0 hxn
      have hpl : pre.length < ns.length := by
        have e := congrArg List.length HP.out
        rw [List.flatMap_cons, hee] at e
        simp only [List.length_append, List.length_cons] at e
        omega
      have hcall := on.call fp pre _ x hWa.j hx0 hxn hpl
      rw [hn] at hcall hee
      have hlt := on.lt _ _ _ hW.j
      have HW := Lib.hid hW
      have HWA := Lib.hid hWa
      have HCL := Lib.hid hcall
      have HEE := Lib.hid hee
      have HLT := Lib.hid hlt
      clear hW hn hN hWa hcall hee hlt
      go_wp2_with fail
      refine HCL.out.mono ?_
      rintro e w2 ⟨fp', rfl, hj2, hc2, hf2⟩
      have hW2 := HWA.out.called on hj2 hc2 hf2
      have hsz : wr.heap.size < w2.heap.size := by have := hc2.size; rw [World.size_alloc] at this; omega
      have hnb : ∀ i, w2.cell? ⟨wr.heap.size, i, none⟩ = #[Value.int .u8 n.k, .int .i64 n.l, .int .i64 n.r, .int .i64 n.f, .int .i64 n.t, .int .i64 n.a, .int .i64 n.i][i]? := fun i =>
        (World.cell?_of_block (hc2.block wr.heap.size (by simp) (fun hm => by have := HLT.out _ hm; omega))).trans (World.cell?_alloc_new wr _ _ i)
      have HW2 := Lib.hid hW2
      clear hj2 hc2 hf2 hW2 c0 c1 c2 c3 c4 c5 c6 hcell
      cases hd : d x
      · have HEE' := Lib.hid (show ent ns d x = [x] by rw [HEE.out, hd]; rfl)
        clear hnb
        go_wp2_with fail
        go_roundg (st'.flatMap (ent ns d)).length
        case measure => rw [HG.out, List.flatMap_cons, HEE'.out]; simp
        case rel =>
          refine ⟨st', pre ++ [x], fp', _, _, rfl, HW2.out.pop rfl, Lib.hid ?_, Lib.hid rfl⟩
          rw [← HP.out, List.flatMap_cons, HEE'.out]; simp
      · have HEE' := Lib.hid (show ent ns d x = x :: (ent ns d n.l ++ ent ns d n.r) by rw [HEE.out, hd]; rfl)
        have HFX := Lib.hid (show (x :: st').flatMap (ent ns d) = x :: (ent ns d n.l ++ ent ns d n.r) ++ st'.flatMap (ent ns d) by rw [List.flatMap_cons, HEE'.out])
        have hkx := HK.out x hx0 hxn
        rw [HND.out] at hkx
        obtain ⟨hkl, hkr⟩ := hkx
        have HPO := Lib.hid (HW2.out.pop rfl)
        have hok : StOk root (x :: st') := HW2.out.ok
        obtain ⟨i0, hi, hzz, hz1, hz2⟩ := info_parts infoInt
        have hone : ∀ k : Int, ∀ u ∈ [Value.int .i64 k], u.oneCell' = true := fun k u hu => by simp at hu; subst hu; rfl
        have hix0 : ∀ w, (Instr.index 37 (.agg #[.int .i64 n.r, .int .i64 n.l]) (.int .i64 0)).run Try.prog w = .ok (.int .i64 n.r) w := fun _ => by kernel_rfl
        have hix1 : ∀ w, (Instr.index 37 (.agg #[.int .i64 n.r, .int .i64 n.l]) (.int .i64 1)).run Try.prog w = .ok (.int .i64 n.l) w := fun _ => by kernel_rfl
        go_wp2_with fail
        refine wp_loop_rounds 3 ?_
        rw [rounds_succ]
        have hox := hok.2.1
        have hos := hok.2.2
        clear hnb
        by_cases cr : 0 ≤ n.r
        · have hr0 : n.r < x := by omega
          by_cases cl : 0 ≤ n.l
          · have hl0 : n.l < x := by omega
            clear hkl hkr
            have hokR : StOk root (n.r :: st') := ⟨cr, by omega, hos⟩
            have hokL : StOk root (n.l :: n.r :: st') := ⟨by omega, by simp only [List.length_cons]; omega, hokR⟩
            go_wp2_with (at_builtin; refine wpList_append_sharp _ rfl (.tmp 60) (.tmp 62) 25 rfl w.heap.size 3 i0 (.int .i64 0) 1 8 Try.underlying25 hi hzz hz1 hz2 rfl (by decide) _ _ _ rfl (HPO.out.own.alloc _) ⟨w2.heap.size, 0, none⟩ 1 1 [.int .i64 n.r] rfl rfl (cell_one_new _ _ _) (hone _) (by unfold maxLen; omega) (by omega) (Nat.le_trans HPO.out.chg.size (by simp)) ?_)
            intro vv w3 ho hg hl
            obtain ⟨g1, cc1, rfl⟩ : ∃ g c, vv = .slice (some ⟨g, 0, none⟩) ((st').length + 1) c := by
              rcases ho.2 with ⟨_, h⟩ | ⟨g, c, _, h, _⟩
              · omega
              · exact ⟨g, c, h⟩
            have HS1 := Lib.hid (HPO.out.push on (k := n.r) hokR _ (by simpa using ho) hg hl)
            clear ho hg hl
            go_wp2_with fail
            rw [rounds_succ]
            go_wp2_with (at_builtin; refine wpList_append_sharp _ rfl (.tmp 60) (.tmp 62) 25 rfl w.heap.size 3 i0 (.int .i64 0) 1 8 Try.underlying25 hi hzz hz1 hz2 rfl (by decide) _ _ _ rfl (HS1.out.own.alloc _) ⟨w3.heap.size, 0, none⟩ 1 1 [.int .i64 n.l] rfl rfl (cell_one_new _ _ _) (hone _) (by unfold maxLen; simp only [List.length_cons]; omega) (by simp only [List.length_cons]; omega) (Nat.le_trans HS1.out.chg.size (by simp)) ?_)
            intro vv w4 ho hg hl
            obtain ⟨g2, cc2, rfl⟩ : ∃ g c, vv = .slice (some ⟨g, 0, none⟩) ((n.r :: st').length + 1) c := by
              rcases ho.2 with ⟨_, h⟩ | ⟨g, c, _, h, _⟩
              · omega
              · exact ⟨g, c, h⟩
            have HS2 := Lib.hid (HS1.out.push on (k := n.l) hokL _ (by simpa using ho) hg hl)
            clear ho hg hl
            go_wp2_with fail
            rw [rounds_succ]
            go_wp2_with fail
            go_roundg ((n.l :: n.r :: st').flatMap (ent ns d)).length
            case measure => rw [HG.out, HFX.out]; simp [List.flatMap_cons]; try omega
            case rel =>
              refine ⟨n.l :: n.r :: st', pre ++ [x], fp', _, _, rfl, HS2.out, Lib.hid ?_, Lib.hid rfl⟩
              rw [← HP.out, HFX.out]; simp [List.flatMap_cons]
          · have hl1 : n.l < 0 := by omega
            have HNL := Lib.hid (ent_neg ns d n.l hl1)
            clear hkl hkr cl
            have hokR : StOk root (n.r :: st') := ⟨cr, by omega, hos⟩
            go_wp2_with (at_builtin; refine wpList_append_sharp _ rfl (.tmp 60) (.tmp 62) 25 rfl w.heap.size 3 i0 (.int .i64 0) 1 8 Try.underlying25 hi hzz hz1 hz2 rfl (by decide) _ _ _ rfl (HPO.out.own.alloc _) ⟨w2.heap.size, 0, none⟩ 1 1 [.int .i64 n.r] rfl rfl (cell_one_new _ _ _) (hone _) (by unfold maxLen; omega) (by omega) (Nat.le_trans HPO.out.chg.size (by simp)) ?_)
            intro vv w3 ho hg hl
            obtain ⟨g1, cc1, rfl⟩ : ∃ g c, vv = .slice (some ⟨g, 0, none⟩) ((st').length + 1) c := by
              rcases ho.2 with ⟨_, h⟩ | ⟨g, c, _, h, _⟩
              · omega
              · exact ⟨g, c, h⟩
            have HS1 := Lib.hid (HPO.out.push on (k := n.r) hokR _ (by simpa using ho) hg hl)
            clear ho hg hl
            go_wp2_with fail
            rw [rounds_succ]
            go_wp2_with fail
            rw [rounds_succ]
            go_wp2_with fail
            go_roundg ((n.r :: st').flatMap (ent ns d)).length
            case measure => rw [HG.out, HFX.out]; simp [List.flatMap_cons, HNL.out]; try omega
            case rel =>
              refine ⟨n.r :: st', pre ++ [x], fp', _, _, rfl, HS1.out, Lib.hid ?_, Lib.hid rfl⟩
              rw [← HP.out, HFX.out]; simp [List.flatMap_cons, HNL.out]
        · have hr1 : n.r < 0 := by omega
          have HNR := Lib.hid (ent_neg ns d n.r hr1)
          by_cases cl : 0 ≤ n.l
          · have hl0 : n.l < x := by omega
            clear hkl hkr cr
            have hokL : StOk root (n.l :: st') := ⟨by omega, by omega, hos⟩
            go_wp2_with fail
            rw [rounds_succ]
            go_wp2_with (at_builtin; refine wpList_append_sharp _ rfl (.tmp 60) (.tmp 62) 25 rfl w.heap.size 3 i0 (.int .i64 0) 1 8 Try.underlying25 hi hzz hz1 hz2 rfl (by decide) _ _ _ rfl (HPO.out.own.alloc _) ⟨w2.heap.size, 0, none⟩ 1 1 [.int .i64 n.l] rfl rfl (cell_one_new _ _ _) (hone _) (by unfold maxLen; omega) (by omega) (Nat.le_trans HPO.out.chg.size (by simp)) ?_)
            intro vv w4 ho hg hl
            obtain ⟨g2, cc2, rfl⟩ : ∃ g c, vv = .slice (some ⟨g, 0, none⟩) ((st').length + 1) c := by
              rcases ho.2 with ⟨_, h⟩ | ⟨g, c, _, h, _⟩
              · omega
              · exact ⟨g, c, h⟩
            have HS2 := Lib.hid (HPO.out.push on (k := n.l) hokL _ (by simpa using ho) hg hl)
            clear ho hg hl
            go_wp2_with fail
            rw [rounds_succ]
            go_wp2_with fail
            go_roundg ((n.l :: st').flatMap (ent ns d)).length
            case measure => rw [HG.out, HFX.out]; simp [List.flatMap_cons, HNR.out]; try omega
            case rel =>
              refine ⟨n.l :: st', pre ++ [x], fp', _, _, rfl, HS2.out, Lib.hid ?_, Lib.hid rfl⟩
              rw [← HP.out, HFX.out]; simp [List.flatMap_cons, HNR.out]
          · have hl1 : n.l < 0 := by omega
            have HNL := Lib.hid (ent_neg ns d n.l hl1)
            clear hkl hkr cl cr
            go_wp2_with fail
            rw [rounds_succ]
            go_wp2_with fail
            rw [rounds_succ]
            go_wp2_with fail
            go_roundg ((st').flatMap (ent ns d)).length
            case measure => rw [HG.out, HFX.out]; simp [HNR.out, HNL.out]; try omega
            case rel =>
              refine ⟨st', pre ++ [x], fp', _, _, rfl, HPO.out, Lib.hid ?_, Lib.hid rfl⟩
              rw [← HP.out, HFX.out]; simp [HNR.out, HNL.out]
end Go.Proofs.Ytjpemijonjmcdaa
