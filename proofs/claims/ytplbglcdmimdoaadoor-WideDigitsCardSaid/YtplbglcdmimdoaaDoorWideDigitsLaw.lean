/- WideDigits: the walk. -/
import Derived.Test.YtplbglcdmimdoaaDoorWideBoxes
import Derived.Test.YtplbglcdmimdoaaDoorDigits
import Derived.Test.YtplbglcdmimdoaaDoorTrim
import Derived.Lib.TrimByte
namespace Go.Proofs.YtplbglcdmimdoaaDoor
open Go.RowKit
set_option linter.unusedVariables false
set_option linter.unusedSimpArgs false

set_option maxRecDepth 100000 in
set_option maxHeartbeats 4000000 in
theorem WideDigits_way (pa qa pb qb pv qv : Int) (s xs ys : ByteArray) (c : UInt8) (t : List UInt8) (r : Int) (nx ny : Nat) (er : Int) (hs : s.size ≤ 60)
    (HS : (er = 0 ∧ Hid (∀ w, Lib.TabIs Tryd.prog w "internal/strconv.uint64pow10" .u64 Lib.pow10Tab → Calls Tryd.prog 33 #[W2 pv qv] w fun e w' => e = .returned (.string s) ∧ Below w.heap.size w w')) ∨ (er = 10 ∧ pv = 0 ∧ qv = 0))
    (PS : Hid (∀ w, Calls Tryd.prog 29 #[.string s] w fun e w' => e = .returned (.tuple #[W2 pv qv, .int .i64 er]) ∧ Below w.heap.size w w'))
    (TA : Hid (∀ w, Lib.TabIs Tryd.prog w "internal/strconv.uint64pow10" .u64 Lib.pow10Tab → Calls Tryd.prog 33 #[W2 pa qa] w fun e w' => e = .returned (.string xs) ∧ Below w.heap.size w w')) (TB : Hid (∀ w, Lib.TabIs Tryd.prog w "internal/strconv.uint64pow10" .u64 Lib.pow10Tab → Calls Tryd.prog 33 #[W2 pb qb] w fun e w' => e = .returned (.string ys) ∧ Below w.heap.size w w'))
    (PX : Hid (∀ w, Calls Tryd.prog 29 #[.string xs] w fun e w' => e = .returned (.tuple #[W2 pa qa, .int .i64 0]) ∧ Below w.heap.size w w'))
    (TR : Hid (∀ w, Calls Tryd.prog 36 #[.string xs, .string { data := #[48, 49, 50, 51, 52, 53, 54, 55, 56, 57] }] w fun e w' => e = .returned (.string { data := #[] }) ∧ Below w.heap.size w w'))
    (CM : Hid (∀ w, Calls Tryd.prog 27 #[W2 pa qa, W2 pb qb] w fun e w' => e = .returned (.int .i64 r) ∧ Below w.heap.size w w'))
    (hx : xs.toList = c :: t) (hx0 : ∀ h : 0 < xs.size, xs[0] = c) (hxs : xs.size = nx) (hys : ys.size = ny) (hnx : 0 < nx ∧ nx ≤ 39 ∧ ny ≤ 39) (h48 : c = 48 → t = [])
    (HC : (nx < ny ∧ r = -1) ∨ (ny < nx ∧ r = 1) ∨ (nx = ny ∧ Hid (∀ w, Calls Tryd.prog 37 #[.string xs, .string ys] w fun e w' => e = .returned (.int .i64 r) ∧ Below w.heap.size w w')))
    (w : World) (HT : Hid (Lib.TabIs Tryd.prog w "internal/strconv.uint64pow10" .u64 Lib.pow10Tab)) : Calls Tryd.prog 10 #[W2 pa qa, W2 pb qb, .string s] w fun e w' => e = .returned (.bool true) ∧ Below w.heap.size w w' := by
  go_enter Tryd.func10, Tryd.ntmps10
  go_upto_region 1 with (fail)
  refine box2 (fun V hB k3 k4 => ?_)
  have HB := Lib.hid hB
  have K3 := Lib.hid k3
  have K4 := Lib.hid k4
  clear k3 k4 hB
  obtain ⟨b3, hb3⟩ : ∃ b, w.heap.size = b := ⟨_, rfl⟩
  rw [hb3] at K3 K4 ⊢
  clear hb3
  go_upto_region 3 with (fail)
  go_cut [7, 8] (fun v7 v8 wc => ∃ b7, v7 = .pointer (some ⟨b7, 0, none⟩) ∧ v8 = .int .i64 er ∧ Hid (WB wc b7 pv qv) ∧ Hid (WB wc b3 pa qa) ∧ Hid (WB wc (b3 + 1) pb qb) ∧ Hid (Below w.heap.size w wc))
  case first =>
    go_wp2_with fail
    refine (PS.out _).mono ?_
    rintro e w1 ⟨rfl, hb⟩
    go_wp2_with fail
    go_meet
    case rel => exact ⟨_, rfl, rfl, Lib.hid (WB.new _ _ _ _), Lib.hid ((K3.out.later hb).alloc _), Lib.hid ((K4.out.later hb).alloc _), Lib.hid (bla HB.out hb _)⟩
  case rest =>
  obtain ⟨b7, rfl, rfl, K7, K3, K4, HB⟩ := hcut
  clear PS
  go_upto_region 4 with (fail)
  go_cut [42] (fun v wd => v = .bool false ∧ Hid (WB wd b3 pa qa) ∧ Hid (WB wd (b3 + 1) pb qb) ∧ Hid (Below w.heap.size w wd))
  case first =>
    obtain ⟨l7, c7, d7⟩ := K7.out
    rcases HS with ⟨rfl, TS⟩ | ⟨rfl, rfl, rfl⟩
    case inl =>
      go_wp2_with fail
      refine (TS.out _ (Tab64.later HT.out HB.out)).mono ?_
      rintro e w1 ⟨rfl, hb⟩
      go_wp2_with fail
      go_meet
      case rel => exact ⟨rfl, Lib.hid (K3.out.later hb), Lib.hid (K4.out.later hb), Lib.hid (bl HB.out HB.out.size hb)⟩
    case inr =>
      go_wp2_with fail
      go_meet
      case rel => exact ⟨rfl, K3, K4, HB⟩
  case rest =>
  obtain ⟨rfl, K3, K4, HB⟩ := hcut
  clear K7 HS
  go_upto_region 6 with (fail)
  obtain ⟨l3, c3, d3⟩ := K3.out
  obtain ⟨l4, c4, d4⟩ := K4.out
  have HTV := Lib.hid (Tab64.later HT.out HB.out)
  have QA := fun s : Since wc => tab_quiet (P := Tryd.prog) (f := 33) (s := s) (T := fun w => Lib.TabIs Tryd.prog w "internal/strconv.uint64pow10" .u64 Lib.pow10Tab) HTV.out (fun w' h => Tab64.later HTV.out h) TA.out
  have QB := fun s : Since wc => tab_quiet (P := Tryd.prog) (f := 33) (s := s) (T := fun w => Lib.TabIs Tryd.prog w "internal/strconv.uint64pow10" .u64 Lib.pow10Tab) HTV.out (fun w' h => Tab64.later HTV.out h) TB.out
  refine since_wp (fun s0 => ?_)
  refine wp_region_since (by kernel_rfl) (by kernel_rfl) ?_
  repeat (go_big_quiet_step ((go_at_call 33; first | with_reducible exact QA _ | with_reducible exact QB _)))
  refine wpQuiet_nil ?_
  rintro _ ⟨s1, rfl⟩
  replace HB := Lib.hid (since_below HB.out s1 HB.out.size)
  replace K3 := Lib.hid (K3.out.later s1.h)
  replace K4 := Lib.hid (K4.out.later s1.h)
  clear QA QB HTV s0 l3 c3 d3 l4 c4 d4
  obtain ⟨U, hU⟩ : ∃ U, s1.w = U := ⟨_, rfl⟩
  rw [hU] at HB K3 K4 ⊢
  clear hU s1 TA TB
  clear wc
  go_wp2_with fail
  refine (PX.out _).mono ?_
  rintro e wl1 ⟨rfl, hb⟩
  go_upto_region 8 with (fail)
  replace K3 := Lib.hid ((K3.out.later hb).alloc (.cells #[.int .u64 pa, .int .u64 qa] 24))
  replace K4 := Lib.hid ((K4.out.later hb).alloc (.cells #[.int .u64 pa, .int .u64 qa] 24))
  replace HB := Lib.hid (bla HB.out hb (.cells #[.int .u64 pa, .int .u64 qa] 24))
  have K11 := Lib.hid (WB.new wl1 pa qa 24)
  obtain ⟨b11, hbe⟩ : ∃ b, wl1.heap.size = b := ⟨_, rfl⟩
  rw [hbe] at K11 ⊢
  clear hb hbe
  generalize wl1.alloc (.cells #[.int .u64 pa, .int .u64 qa] 24) = vl1 at K3 K4 K11 HB ⊢
  go_cut [76] (fun v wx => v = .bool false ∧ Hid (WB wx b3 pa qa) ∧ Hid (WB wx (b3 + 1) pb qb) ∧ Hid (Below w.heap.size w wx))
  case first =>
    obtain ⟨l3, c3, d3⟩ := K3.out
    obtain ⟨l11, c11, d11⟩ := K11.out
    by_cases hc : c = 48
    case pos =>
      obtain rfl := h48 hc
      subst hc
      clear h48
      have HX0 := hx0 (by omega)
      go_wp2_with fail
      refine (TR.out _).mono ?_
      rintro e w9 ⟨rfl, hb⟩
      go_wp2_with fail
      go_meet
      case rel => exact ⟨rfl, Lib.hid (K3.out.later hb), Lib.hid (K4.out.later hb), Lib.hid (bl HB.out HB.out.size hb)⟩
    case neg =>
      have q : ¬ ((c.toNat : Int) = 48) := fun h => hc (UInt8.toNat_inj.1 (show c.toNat = 48 by omega))
      have HX0 := hx0 (by omega)
      clear h48
      go_wp2_with fail
      refine (TR.out _).mono ?_
      rintro e w9 ⟨rfl, hb⟩
      go_wp2_with fail
      go_meet
      case rel => exact ⟨rfl, Lib.hid (K3.out.later hb), Lib.hid (K4.out.later hb), Lib.hid (bl HB.out HB.out.size hb)⟩
  case rest =>
  obtain ⟨rfl, K3, K4, HB⟩ := hcut
  clear K11 TR PX hx hx0 h48
  have AWK := fun w' (h : Below w.heap.size w w') => awake01_any w' (Tab64.later HT.out h)
  rcases HC with ⟨hlt, rfl⟩ | ⟨hlt, rfl⟩ | ⟨hlt, SC⟩
  case inl =>
    obtain ⟨l3, c3, d3⟩ := K3.out
    obtain ⟨l4, c4, d4⟩ := K4.out
    go_wp2_with fail
    refine (CM.out _).mono ?_
    rintro e w8 ⟨rfl, hb⟩
    replace HB := Lib.hid (bl HB.out HB.out.size hb)
    clear hb l3 c3 d3 l4 c4 d4
    go_wp2_with fail
    refine (AWK _ HB.out).mono ?_
    rintro e w9 ⟨rfl, hb⟩
    go_wp2
    go_ret
    exact ⟨rfl, bl HB.out HB.out.size hb⟩
  case inr.inl =>
    have hd : decide (nx < ny) = false := decide_eq_false (by omega)
    obtain ⟨l3, c3, d3⟩ := K3.out
    obtain ⟨l4, c4, d4⟩ := K4.out
    go_wp2_with fail
    refine (CM.out _).mono ?_
    rintro e w8 ⟨rfl, hb⟩
    replace HB := Lib.hid (bl HB.out HB.out.size hb)
    clear hb l3 c3 d3 l4 c4 d4
    go_wp2_with fail
    refine (AWK _ HB.out).mono ?_
    rintro e w9 ⟨rfl, hb⟩
    go_wp2
    go_ret
    exact ⟨rfl, bl HB.out HB.out.size hb⟩
  case inr.inr =>
    go_upto_region 12 with (fail)
    obtain ⟨l3, c3, d3⟩ := K3.out
    obtain ⟨l4, c4, d4⟩ := K4.out
    refine since_wp (fun s0 => ?_)
    refine wp_region_since (by kernel_rfl) (by kernel_rfl) ?_
    have AW := fun s : Since wc => tab_quiet (P := Tryd.prog) (f := 12) (s := s) (T := fun w' => Below w.heap.size w w') HB.out (fun w' h => bl HB.out HB.out.size h) AWK
    repeat (go_big_quiet_step ((first
      | (go_at_call 12; with_reducible exact AW _)
      | (go_at_call 37; with_reducible exact since_quiet SC.out)
      | (go_at_call 27; with_reducible exact since_quiet CM.out))))
    refine wpQuiet_nil ?_
    rintro _ ⟨s, rfl⟩
    go_wp2
    go_ret
    exact ⟨rfl, since_below HB.out s HB.out.size⟩
set_option maxRecDepth 100000 in
theorem WideDigits_long (pa qa pb qb : Int) (s : ByteArray) (hs : 60 < s.size) (w : World) (HT : Hid (Lib.TabIs Tryd.prog w "internal/strconv.uint64pow10" .u64 Lib.pow10Tab)) :
    Calls Tryd.prog 10 #[W2 pa qa, W2 pb qb, .string s] w fun e w' => e = .returned (.bool true) ∧ Below w.heap.size w w' := by
  go_enter Tryd.func10, Tryd.ntmps10
  go_upto_region 1 with (fail)
  refine box2 (fun V hB k3 k4 => ?_)
  have HB := Lib.hid hB
  clear k3 k4 hB
  go_wp2_with fail
  refine (awake01_any _ (Tab64.later HT.out HB.out)).mono ?_
  rintro e w9 ⟨rfl, hb⟩
  go_wp2
  go_ret
  exact ⟨rfl, bl HB.out HB.out.size hb⟩
theorem nDigits_top {a : Nat} (h : a < wTop) : Lib.nDigits a ≤ 39 := by
  have h1 := nDigits_mono (a := a) (b := 340282366920938463463374607431768211455) (by unfold wTop at h; omega)
  have h2 := Lib.nDigits_unique 38 340282366920938463463374607431768211455 (by decide) (by decide)
  omega
theorem WideDigits_words (ah al : Int) (a1 : 0 ≤ ah) (a2 : ah < 18446744073709551616) (a3 : 0 ≤ al) (a4 : al < 18446744073709551616) (bh bl : Int) (b1 : 0 ≤ bh) (b2 : bh < 18446744073709551616) (b3 : 0 ≤ bl) (b4 : bl < 18446744073709551616) (s : ByteArray)
    (w : World) (ht : Lib.TabIs Tryd.prog w "internal/strconv.uint64pow10" .u64 Lib.pow10Tab) : Calls Tryd.prog 10 #[W2 ah al, W2 bh bl, .string s] w fun e w' => e = .returned (.bool true) ∧ Below w.heap.size w w' := by
  by_cases hs : 60 < s.size
  · exact WideDigits_long ah al bh bl s hs w (Lib.hid ht)
  obtain ⟨a, alt, ae⟩ := of_words ah al a1 a2 a3 a4
  obtain ⟨b, blt, be⟩ := of_words bh bl b1 b2 b3 b4
  have sz : ∀ x : List UInt8, (⟨x.toArray⟩ : ByteArray).size = x.length := fun x => by simp [ByteArray.size]
  have TA := text_any a alt
  have TB := text_any b blt
  rw [← ae] at TA
  rw [← be] at TB
  have PX := fun w => parse_any ⟨(textL a).toArray⟩ w (by rw [sz]; unfold textL; rw [Lib.decDigits_length]; have := nDigits_top alt; omega)
  have px : parseW (⟨(textL a).toArray⟩ : ByteArray).data.toList = some a := parse_text a alt
  rw [px] at PX
  simp only [Option.getD_some, Option.isSome_some, if_true] at PX
  rw [← ae] at PX
  have PS := fun w => parse_any s w (by omega)
  obtain ⟨v, hv⟩ : ∃ v, (parseW s.data.toList).getD 0 = v := ⟨_, rfl⟩
  obtain ⟨er, her⟩ : ∃ er : Int, (if (parseW s.data.toList).isSome then 0 else 10) = er := ⟨_, rfl⟩
  rw [hv, her] at PS
  obtain ⟨pv, qv, ev⟩ := words_of v
  rw [ev] at PS
  have HS : (er = 0 ∧ Hid (∀ w, Lib.TabIs Tryd.prog w "internal/strconv.uint64pow10" .u64 Lib.pow10Tab → Calls Tryd.prog 33 #[W2 pv qv] w fun e w' => e = .returned (.string s) ∧ Below w.heap.size w w')) ∨ (er = 10 ∧ pv = 0 ∧ qv = 0) := by
    cases hp : parseW s.data.toList with
    | none =>
      right
      rw [hp] at hv her
      subst hv
      subst her
      have e := Array.toList_inj.2 (Value.agg.inj ev)
      simp only [List.cons.injEq, Value.int.injEq, true_and, and_true] at e
      exact ⟨rfl, e.1.symm, e.2.symm⟩
    | some u =>
      left
      rw [hp] at hv her
      subst hv
      subst her
      obtain ⟨h1, h2⟩ := text_parse _ _ hp
      have h := text_any u h2
      have e1 : wideV u = W2 pv qv := ev
      have e2 : (⟨(textL u).toArray⟩ : ByteArray) = s := by unfold textL; rw [h1]
      rw [e1, e2] at h
      exact ⟨rfl, Lib.hid h⟩
  have hne : textL a ≠ [] := decDigits_ne a
  obtain ⟨c, t, hct⟩ : ∃ c t, textL a = c :: t := by
    cases h : textL a with
    | nil => exact absurd h hne
    | cons c t => exact ⟨c, t, rfl⟩
  have h48 : c = 48 → t = [] := by
    rintro rfl
    by_cases h0 : a = 0
    · subst h0
      unfold textL at hct
      rw [dec_zero] at hct
      simpa using hct.symm
    · exact absurd (by unfold textL at hct; rw [hct]; rfl) (dec_head a h0)
  have hall : ∀ x ∈ textL a, x ∈ ([48, 49, 50, 51, 52, 53, 54, 55, 56, 57] : List UInt8) := by
    intro x hx
    obtain ⟨h1, h2⟩ := dgt_back (dec_all a x hx)
    have key : ∀ d, d < 10 → UInt8.ofNat (48 + d) ∈ ([48, 49, 50, 51, 52, 53, 54, 55, 56, 57] : List UInt8) := by decide
    have := key _ h1
    rwa [h2] at this
  have TR := trim_all (textL a) [48, 49, 50, 51, 52, 53, 54, 55, 56, 57] (by unfold textL; rw [Lib.decDigits_length]; have := nDigits_top alt; omega) (by decide) (by decide) hall
  have CM := wcmp_any a b
  rw [← ae, ← be] at CM
  have lx : (⟨(textL a).toArray⟩ : ByteArray).size = Lib.nDigits a := by rw [sz]; exact Lib.decDigits_length a
  have ly : (⟨(textL b).toArray⟩ : ByteArray).size = Lib.nDigits b := by rw [sz]; exact Lib.decDigits_length b
  refine WideDigits_way ah al bh bl pv qv s ⟨(textL a).toArray⟩ ⟨(textL b).toArray⟩ c t (cmpI a b) (Lib.nDigits a) (Lib.nDigits b) er (by omega) HS (Lib.hid PS) (Lib.hid TA) (Lib.hid TB) (Lib.hid PX) (Lib.hid TR) (Lib.hid CM) ?_ ?_ lx ly ⟨Lib.nDigits_pos a, nDigits_top alt, nDigits_top blt⟩ h48 ?_ w (Lib.hid ht)
  · rw [ByteArray.toList_eq]; exact hct
  · intro h
    have e : (textL a)[0]? = some c := by rw [hct]; rfl
    have e2 := Lib.getElem_mk (textL a) 0 h
    exact Option.some.inj (e2.symm.trans e)
  · rcases Nat.lt_trichotomy (Lib.nDigits a) (Lib.nDigits b) with h | h | h
    · left
      have hab : a < b := by
        rcases Nat.lt_or_ge a b with g | g
        · exact g
        · have := nDigits_mono g; omega
      exact ⟨h, by unfold cmpI; rw [if_pos (by omega)]⟩
    · refine .inr (.inr ⟨h, Lib.hid fun w => ?_⟩)
      have k := Tryd.strings_Compare ⟨(textL a).toArray⟩ ⟨(textL b).toArray⟩ w
      have e : Lib.compareBytes (⟨(textL a).toArray⟩ : ByteArray).data.toList (⟨(textL b).toArray⟩ : ByteArray).data.toList = cmpI a b := dec_order a b h
      rw [e] at k
      exact k.mono fun _ _ ⟨h1, h2⟩ => ⟨h1, h2 ▸ Below.refl _ _⟩
    · right; left
      have hab : b < a := by
        rcases Nat.lt_or_ge b a with g | g
        · exact g
        · have := nDigits_mono g; omega
      exact ⟨h, by unfold cmpI; rw [if_neg (by omega), if_pos (by omega)]⟩
end Go.Proofs.YtplbglcdmimdoaaDoor
