/- wide.pieces: of nineteen digits each, the last ones first. -/
import Derived.Test.YtokpgopdkimmmaaGreatDoorWideParse
import Derived.Test.YtokpgopdkimmmaaGreatDoorDiv64
import Derived.Test.YtokpgopdkimmmaaGreatDoorWords
namespace Go.Proofs.YtokpgopdkimmmaaGreatDoor
open Go.RowKit Go.Shelf
set_option linter.unusedVariables false
set_option linter.unusedSimpArgs false

abbrev Pc : Nat := 10000000000000000000
def piecesF : Nat → Nat → List Nat
  | 0, _ => []
  | f + 1, n => if n = 0 then [] else (n % Pc) :: piecesF f (n / Pc)
theorem piece_split (m vh vl : Nat) (hl : vl < 18446744073709551616) (h : m = vh * 18446744073709551616 + vl) :
    vh / Pc * 18446744073709551616 + (vh % Pc * 18446744073709551616 + vl) / Pc = m / Pc ∧ (vh % Pc * 18446744073709551616 + vl) % Pc = m % Pc ∧ (vh % Pc * 18446744073709551616 + vl) / Pc < 18446744073709551616 := by
  unfold Pc
  omega
theorem pieces_fuel {f m : Nat} (h : m < Pc ^ (f + 1)) : m / Pc < Pc ^ f := by
  rw [Nat.pow_succ] at h
  exact Nat.div_lt_of_lt_mul (by rw [Nat.mul_comm]; exact h)
theorem wtop_pc {a : Nat} (h : a < wTop) : a < Pc ^ 3 := Nat.lt_trans h (by decide)
theorem div_top {m : Nat} (h : m < wTop) : m / Pc < wTop := Nat.lt_of_le_of_lt (Nat.div_le_self _ _) h
def sliceLen : Value → Nat
  | .slice _ n _ => n
  | _ => 0
theorem infoU64 : (Tryz.prog.info? 29).map (fun i => (i.zero, i.size, i.bytes)) = some (some (.int .u64 0), 1, 8) := by kernel_rfl
theorem reads_cells (w : World) (cs : Array Value) (e : TypeId) (m size : Nat) (h : cs.size = m * size) : Reads (w.alloc (.cells cs e)) (w.heap.size + 1) size (some ⟨w.heap.size, 0, none⟩) m cs.toList :=
  ⟨by simpa using h, fun _ => ⟨_, rfl, by simp, fun j u hu => by
    have e2 : (⟨w.heap.size, 0, none⟩ : Addr).add j = ⟨w.heap.size, j, none⟩ := by
      unfold Addr.add
      split
      · rename_i hj; rw [hj]
      · rw [Nat.zero_add]
    rw [e2, cells_at w cs e j]; simpa using hu⟩⟩
theorem own_shape {W : World} {base : Nat} {e : TypeId} {size : Nat} {v : Value} {n : Nat} {xs : List Value} (h : W.ownsRow base e size v n xs) : ∃ a c, v = .slice a n c := by
  rcases h.2 with ⟨rfl, rfl⟩ | ⟨g, c, _, rfl, _⟩
  · exact ⟨_, _, rfl⟩
  · exact ⟨_, _, rfl⟩
theorem ownsRow_block {W W' : World} {base : Nat} {e : TypeId} {size : Nat} {v : Value} {n : Nat} {xs : List Value} (h : W.ownsRow base e size v n xs) (hk : ∀ g, v.ownBlock = some g → W'.heap[g]? = W.heap[g]?) : W'.ownsRow base e size v n xs := by
  rcases h with ⟨h0, h | ⟨g, cap, cur, rfl, hB, hg, hr⟩⟩
  · exact ⟨h0, .inl h⟩
  · exact ⟨h0, .inr ⟨g, cap, cur, rfl, hB, (hk g rfl).trans hg, hr⟩⟩
theorem own_below {W W' : World} {base : Nat} {e : TypeId} {size : Nat} {v : Value} {n : Nat} {xs : List Value} (h : W.ownsRow base e size v n xs) (hb : Below W.heap.size W W') : W'.ownsRow base e size v n xs :=
  ownsRow_block h (fun g hg => hb.block g (h.lt _ hg).2)
theorem own_cellsP {W : World} {base : Nat} {e : TypeId} {size : Nat} {v : Value} {n : Nat} {xs : List Value} (h : W.ownsRow base e size v n xs) (r : Nat) (hr : v.ownBlock = some r) : ∃ cs fr, W.heap[r]? = some (.cells cs e fr) := by
  rcases h.2 with ⟨rfl, h⟩ | ⟨g, c, cur, rfl, _, hg, _⟩
  · cases hr
  · cases hr; exact ⟨cur, _, hg⟩
/-- The value as its words lie in a box. -/
def BoxIs (b m : Nat) (w : World) : Prop := w.heap[b]? = some (.cells #[.int .u64 ((m / 18446744073709551616 : Nat) : Int), .int .u64 ((m % 18446744073709551616 : Nat) : Int)] 31 (0, 0))
def PiecesP (a : Nat) (w : World) (e : Ending) (w' : World) : Prop :=
  ∃ ao ca, e = .returned (.slice ao (piecesF 3 a).length ca) ∧ w'.ownsRow w.heap.size 29 1 (.slice ao (piecesF 3 a).length ca) (piecesF 3 a).length ((piecesF 3 a).map fun (n : Nat) => Value.int .u64 (n : Int)) ∧ Below w.heap.size w w'
set_option maxRecDepth 100000 in
set_option maxHeartbeats 2000000 in
theorem pieces_any (a : Nat) (ha0 : a < wTop) (w : World) : Calls Tryz.prog 82 #[wideV a] w (PiecesP a w) := by
  obtain ⟨i0, hi0, hzz, hz1, hz2⟩ := info_parts infoU64
  have HA := Lib.hid (wtop_pc ha0)
  have HA0 := Lib.hid ha0
  clear ha0
  unfold wideV
  obtain ⟨ah, hah⟩ : ∃ ah, a / 18446744073709551616 = ah := ⟨_, rfl⟩
  obtain ⟨al, hal⟩ : ∃ al, a % 18446744073709551616 = al := ⟨_, rfl⟩
  rw [hah, hal]
  have HAW := Lib.hid (And.intro hah hal)
  clear hah hal
  go_enter Tryz.func82, Tryz.ntmps82
  go_wp2_with fail
  go_loopw [3] (fun v wr => ∃ (m : Nat) (out : List Nat) (ao : Option Addr) (ca : Nat), v = .slice ao out.length ca ∧ out.length ≤ 3 ∧ Hid (m < Pc ^ (3 - out.length)) ∧ Hid (wr.ownsRow w.heap.size 29 1 (.slice ao out.length ca) out.length (out.map fun (n : Nat) => Value.int .u64 (n : Int))) ∧ Hid (out ++ piecesF (3 - out.length) m = piecesF 3 a) ∧ Hid (BoxIs w.heap.size m wr) ∧ Hid (Below w.heap.size w wr) ∧ Hid (m < wTop))
    (fun v _ => 3 - sliceLen v)
  case atStart =>
    refine ⟨a, [], none, 0, rfl, by simp, Lib.hid (by simpa using HA.out), Lib.hid (World.ownsRow_nil _ _ _ _), Lib.hid (by simp), Lib.hid ?_, Lib.hid ((Below.refl _ _).alloc (Nat.le_refl _) _), HA0⟩
    unfold BoxIs
    rw [HAW.out.1, HAW.out.2]
    exact World.alloc_heap_new w _
  case round =>
    obtain ⟨m, out, ao, ca, rfl, hol, HM, HO, HP, HX, HB, HTP⟩ := hrel
    have hx := HX.out
    unfold BoxIs at hx
    obtain ⟨vh, hvh⟩ : ∃ vh, m / 18446744073709551616 = vh := ⟨_, rfl⟩
    obtain ⟨vl, hvl⟩ : ∃ vl, m % 18446744073709551616 = vl := ⟨_, rfl⟩
    have hm : m = vh * 18446744073709551616 + vl := by omega
    have hvl2 : vl < 18446744073709551616 := by omega
    rw [hvh, hvl] at hx
    have c0 : wr.cell? ⟨w.heap.size, 0, none⟩ = some (.int .u64 (vh : Int)) := by simp [World.cell?, hx]
    have c1 : wr.cell? ⟨w.heap.size, 1, none⟩ = some (.int .u64 (vl : Int)) := by simp [World.cell?, hx]
    have f0 : wr.frozen? ⟨w.heap.size, 0, none⟩ = false := by simp [World.frozen?, hx]
    have f1 : wr.frozen? ⟨w.heap.size, 1, none⟩ = false := by simp [World.frozen?, hx]
    have HC := Lib.hid hx
    clear hx hvh hvl HX
    by_cases h0 : m = 0
    · obtain ⟨rfl, rfl⟩ : vh = 0 ∧ vl = 0 := by omega
      have HE := Lib.hid (show out = piecesF 3 a by
        rw [← HP.out, h0]
        cases 3 - out.length <;> simp [piecesF])
      clear hm h0 hvl2
      go_wp2_with fail
      go_ret
      refine ⟨ao, ca, ?_, ?_, HB.out⟩
      · rw [← HE.out]; rfl
      · rw [← HE.out]; exact HO.out
    · obtain ⟨f, hf⟩ : ∃ f, 3 - out.length = f + 1 := by
        refine ⟨3 - out.length - 1, ?_⟩
        have h := HM.out
        rcases Nat.eq_zero_or_pos (3 - out.length) with h2 | h2
        · rw [h2] at h; simp at h; omega
        · omega
      have HM2 := Lib.hid (show m / Pc < Pc ^ f from pieces_fuel (by rw [← hf]; exact HM.out))
      have HP2 := Lib.hid (show (out ++ [m % Pc]) ++ piecesF f (m / Pc) = piecesF 3 a by
        rw [← HP.out, hf, piecesF, if_neg h0]; simp)
      obtain ⟨s1, s2, s3⟩ := piece_split m vh vl hvl2 hm
      obtain ⟨qh, hqh⟩ : ∃ q, vh / Pc = q := ⟨_, rfl⟩
      obtain ⟨rh, hrh⟩ : ∃ r, vh % Pc = r := ⟨_, rfl⟩
      have hrl : rh < 10000000000000000000 := by unfold Pc at hrh; omega
      rw [hqh, hrh] at s1
      rw [hrh] at s2 s3
      have HDIV := Lib.hid (fun w => div64_any rh vl hrl hvl2 w)
      obtain ⟨Q, hQ⟩ : ∃ Q, (rh * 18446744073709551616 + vl) / Pc = Q := ⟨_, rfl⟩
      obtain ⟨R, hR⟩ : ∃ R, (rh * 18446744073709551616 + vl) % Pc = R := ⟨_, rfl⟩
      have HDQ := Lib.hid (show ∀ w, Calls Tryz.prog 132 #[.int .u64 rh, .int .u64 vl, .int .u64 10000000000000000000] w fun e w' => e = .returned (.tuple #[.int .u64 (Q : Int), .int .u64 (R : Int)]) ∧ Below w.heap.size w w' from fun w => by
        have h := HDIV.out w
        rw [show (rh * 18446744073709551616 + vl) / 10000000000000000000 = Q from hQ, show (rh * 18446744073709551616 + vl) % 10000000000000000000 = R from hR] at h
        exact h)
      rw [hQ] at s1 s3
      rw [hR] at s2
      have HS1 := Lib.hid s1
      have HS2 := Lib.hid s2
      have HNX := Lib.hid (show m / Pc / 18446744073709551616 = qh ∧ m / Pc % 18446744073709551616 = Q by omega)
      have e1 : (vh : Int) / 10000000000000000000 = (qh : Int) := by unfold Pc at hqh; omega
      have e2 : (vh : Int) % 10000000000000000000 = (rh : Int) := by unfold Pc at hrh; omega
      have HF := Lib.hid hf
      have hwq : IntKind.u64.wrap (qh : Int) = qh := by
        have h := HTP.out
        rw [IntKind.wrap_u64]
        unfold wTop at h
        unfold Pc at hqh
        omega
      have HTQ := Lib.hid (div_top HTP.out)
      have hol2 : out.length < 3 := by omega
      have hlt0 := lt_of_heap HC.out
      rcases (show (decide (0 < vh) = true) ∨ (decide (0 < vh) = false ∧ decide (0 < vl) = true) by simp only [decide_eq_true_eq, decide_eq_false_iff_not]; omega) with d1 | ⟨d1, d2⟩
      all_goals
        clear hm h0 hqh hrh hQ hR s1 s2 HDIV hf HM HP hol
        go_wp2_with fail
        go_quiet (fail)
        go_wp2_with fail
        refine (HDQ.out _).mono ?_
        rintro e w1 ⟨rfl, hb1⟩
        have hsb1 := hb1.size
        have HX1 := Lib.hid ((hb1.block _ hlt0).trans HC.out)
        have hbw : Below wr.heap.size wr w1 := by
          have h := (below_drewN wr _).trans hb1
          exact h
        have HO1 := Lib.hid (own_below HO.out hbw)
        have HB1 := Lib.hid (HB.out.trans (hbw.mono HB.out.size))
        have hsz1 := HB1.out.size
        clear hb1 hbw
        go_wp2_with (at_builtin; refine wpList_append_any _ rfl (.tmp 29) (.tmp 31) 135 rfl w.heap.size 29 i0 (.int .u64 0) 1 8 Tryz.underlying135 hi0 hzz hz1 hz2 rfl (by decide) _ _ _ rfl (HO1.out.alloc _) (w1.heap.size + 1) (some ⟨w1.heap.size, 0, none⟩) 1 1 [.int .u64 (R : Int)] rfl (reads_cells w1 #[.int .u64 (R : Int)] _ 1 1 rfl) (by intro u hu; simp at hu; subst hu; rfl) (by unfold maxLen; omega) (by omega) (Nat.le_trans hsz1 (by simp)) ?_)
        intro v2 w5 ho5 hg5 _
        obtain ⟨oa2, oc2, rfl⟩ := own_shape ho5
        have hb5 : w5.heap[w.heap.size]? = some (.cells #[.int .u64 (vh : Int), .int .u64 (vl : Int)] 31 (0, 0)) := by
          have hlt : w.heap.size < w1.heap.size := lt_of_heap HX1.out
          refine (hg5.block _ (by simp; omega) (fun e => ?_)).trans ((Below.heap_alloc _ _ _ hlt).trans HX1.out)
          obtain ⟨cs, fr, hc⟩ := own_cellsP HO1.out _ e.symm
          rw [HX1.out] at hc
          cases hc
        have HB5 := Lib.hid ((HB1.out.alloc HB1.out.size (.cells #[.int .u64 (R : Int)] 29)).grown hg5 (Nat.le_trans HB1.out.size (by simp)) (fun r hr => (HO1.out.lt r hr).1))
        have HO5 := Lib.hid ho5
        have c0 : w5.cell? ⟨w.heap.size, 0, none⟩ = some (.int .u64 (vh : Int)) := by simp [World.cell?, hb5]
        have c1 : w5.cell? ⟨w.heap.size, 1, none⟩ = some (.int .u64 (vl : Int)) := by simp [World.cell?, hb5]
        have f0 : w5.frozen? ⟨w.heap.size, 0, none⟩ = false := by simp [World.frozen?, hb5]
        have f1 : w5.frozen? ⟨w.heap.size, 1, none⟩ = false := by simp [World.frozen?, hb5]
        have lz5 := lt_of_heap hb5
        have HX5 := Lib.hid hb5
        clear ho5 hg5 hb5 HX1 HO1 HB1
        go_wp2_with fail
        go_roundw
        case measure => simp [sliceLen]; omega
        case rel =>
          refine ⟨m / Pc, out ++ [m % Pc], oa2, oc2, by simp, by simp; omega, Lib.hid ?_, Lib.hid ?_, Lib.hid ?_, Lib.hid ?_, Lib.hid ?_, HTQ⟩
          · rw [List.length_append, List.length_singleton, show 3 - (out.length + 1) = f by have := HF.out; omega]; exact HM2.out
          · refine ownsRow_block ?_ (fun g hg => ?_) (W := w5)
            · have h := HO5.out
              rw [← HS2.out, List.length_append, List.map_append]
              exact h
            · refine (Below.heap_setCell _ _ _ _ (fun e => ?_)).trans (Below.heap_setCell _ _ _ _ (fun e => ?_))
              all_goals
                obtain ⟨cs, fr, hc⟩ := own_cellsP HO5.out g (by rw [List.length_append] at hg; exact hg)
                simp only at e
                subst e
                rw [HX5.out] at hc
                cases hc
          · rw [List.length_append, List.length_singleton, show 3 - (out.length + 1) = f by have := HF.out; omega]; exact HP2.out
          · unfold BoxIs
            rw [HNX.out.1, HNX.out.2]
            exact cells2_set HX5.out
          · exact (HB5.out.setCell (p := ⟨w.heap.size, 0, none⟩) (Nat.le_refl _) _).setCell (p := ⟨w.heap.size, 1, none⟩) (Nat.le_refl _) _
end Go.Proofs.YtokpgopdkimmmaaGreatDoor
