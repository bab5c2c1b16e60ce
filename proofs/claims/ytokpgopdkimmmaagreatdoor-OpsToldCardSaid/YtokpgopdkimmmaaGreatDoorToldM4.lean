import Derived.Test.YtokpgopdkimmmaaGreatDoorToldM3
import Derived.Test.YtokpgopdkimmmaaGreatDoorModM5
import Derived.Test.YtokpgopdkimmmaaGreatDoorModM6
import Derived.Test.YtokpgopdkimmmaaGreatDoorOpAwake
import Derived.Test.YtokpgopdkimmmaaGreatDoorOpLines
import Derived.Deep.Cut
import Derived.Deep.CutRange
import Derived.Deep.DeepCutAuto
/- What a model's replies read as: the plain law of OpsTold; Area and Rim of a model's boxes; strings.Contains of a byte 10. -/
namespace Go.Proofs.YtokpgopdkimmmaaGreatDoor
open Go.RowKit Go.Maps
open Go.Lib (decDigits itoa fieldsGo isSp)
set_option linter.unusedVariables false
set_option linter.unusedSimpArgs false

theorem swept_any {w : World} {m p s b q : Nat} {M : ModV} (h : ModelAt w m p s b q M) (hl : M.bxs.length ≤ 100000) (h64 : Bx64 M.bxs) : Swept w b 122 (areaL (allB M.bxs)) ∧ Swept w b 124 (rimL (allB M.bxs)) := by
  have hb := h.bxs
  have hl2 : (allB M.bxs).length ≤ 100000 := by rw [allB_len]; exact hl
  have h2 : Bx64 (allB M.bxs) := fun x hx => h64 x ((allB_perm _).mem_iff.1 hx)
  exact ⟨fun V hV => (all_any b q M.bxs (by omega) V (hb.later hV)).mono fun e w1 ⟨A, c, he, hr, _, hbl⟩ => ⟨_, he, hbl, area_any _ hl2 h2 A c w1 hr⟩,
    fun V hV => (all_any b q M.bxs (by omega) V (hb.later hV)).mono fun e w1 ⟨A, c, he, hr, _, hbl⟩ => ⟨_, he, hbl, rim_any _ hl2 h2 A c w1 hr⟩⟩
/-- What a model of so many holds. -/
structure Few (M : ModV) (i : Nat) : Prop where
  pts : M.pts.length ≤ i
  sps : M.sps.length ≤ i
  bxs : M.bxs.length ≤ i
  b64 : Bx64 M.bxs
  pid : ∀ x ∈ M.pts, x.id < 4294967296
  sid : ∀ x ∈ M.sps, x.id < 4294967296
  bid : ∀ x ∈ M.bxs, x.id < 4294967296
theorem come_len {α : Type} (k : RecK α) (r : Int) (L : List α) (x : α) : (comeV k r L x).2.2.length ≤ L.length + 1 ∧ ∀ y ∈ (comeV k r L x).2.2, y ∈ L ∨ y = x := by
  unfold comeV
  split
  · exact ⟨by simp, fun y hy => .inl hy⟩
  · split
    · exact ⟨by simp, fun y hy => .inl hy⟩
    · refine ⟨by simp, fun y hy => ?_⟩
      simpa using hy
theorem lose_len {α : Type} (k : RecK α) (L : List α) (i : Nat) : (loseV k L i).2.2.length ≤ L.length ∧ ∀ y ∈ (loseV k L i).2.2, y ∈ L := by
  unfold loseV
  split
  · exact ⟨List.length_filter_le _ _, fun y hy => (List.mem_filter.1 hy).1⟩
  · exact ⟨by simp, fun y hy => hy⟩
theorem Few.mono {M : ModV} {i j : Nat} (h : Few M i) (hj : i ≤ j) : Few M j := ⟨Nat.le_trans h.pts hj, Nat.le_trans h.sps hj, Nat.le_trans h.bxs hj, h.b64, h.pid, h.sid, h.bid⟩
theorem few_do {M : ModV} {i : Nat} (h : Few M i) (o : OpV) (ho : o.ok) (an rn : Nat) : Few (doR o M an rn).2 (i + 1) := by
  have h1 := h.mono (Nat.le_succ i)
  unfold doR
  split
  · exact h1
  · split
    · unfold changeR
      split
      · have hc := come_len ptK M.room M.pts (opPt o)
        exact ⟨Nat.le_trans hc.1 (Nat.succ_le_succ h.pts), h1.sps, h1.bxs, h.b64, fun x hx => (hc.2 x hx).elim (h.pid x) fun e => by rw [e]; exact ho.id, h.sid, h.bid⟩
      · split
        · split
          · exact h1
          · have hc := come_len spK M.room M.sps (opSp o)
            exact ⟨h1.pts, Nat.le_trans hc.1 (Nat.succ_le_succ h.sps), h1.bxs, h.b64, h.pid, fun x hx => (hc.2 x hx).elim (h.sid x) fun e => by rw [e]; exact ho.id, h.bid⟩
        · split
          · split
            · exact h1
            · have hc := come_len bxK M.room M.bxs (opBx o)
              exact ⟨h1.pts, h1.sps, Nat.le_trans hc.1 (Nat.succ_le_succ h.bxs), fun x hx => (hc.2 x hx).elim (h.b64 x) fun e => by rw [e]; exact ⟨ho.a, ho.b, ho.c, ho.d⟩, h.pid, h.sid, fun x hx => (hc.2 x hx).elim (h.bid x) fun e => by rw [e]; exact ho.id⟩
          · split
            · have hc := lose_len ptK M.pts o.id
              exact ⟨Nat.le_trans hc.1 h1.pts, h1.sps, h1.bxs, h.b64, fun x hx => h.pid x (hc.2 x hx), h.sid, h.bid⟩
            · split
              · have hc := lose_len spK M.sps o.id
                exact ⟨h1.pts, Nat.le_trans hc.1 h1.sps, h1.bxs, h.b64, h.pid, fun x hx => h.sid x (hc.2 x hx), h.bid⟩
              · have hc := lose_len bxK M.bxs o.id
                exact ⟨h1.pts, h1.sps, Nat.le_trans hc.1 h1.bxs, fun x hx => h.b64 x (hc.2 x hx), h.pid, h.sid, fun x hx => h.bid x (hc.2 x hx)⟩
    · split
      · exact h1
      · exact h1
theorem pick_mem {α : Type} (k : RecK α) (so : α → Bool) (L : List α) (x : Nat) (h : x ∈ pickN k so L) : ∃ y ∈ L, k.name y = x := by
  unfold pickN at h
  have h2 := (sortN_perm _).mem_iff.1 h
  unfold soL at h2
  obtain ⟨y, hy, rfl⟩ := List.mem_map.1 h2
  exact ⟨y, (List.mem_filter.1 hy).1, rfl⟩
theorem pick_len {α : Type} (k : RecK α) (so : α → Bool) (L : List α) : (pickN k so L).length ≤ L.length := by
  unfold pickN
  rw [(sortN_perm _).length_eq]
  exact soL_le k so L
/-- What a reply is, but for its error. -/
structure RepFew (k : Nat) (r : RepV) (i : Nat) : Prop where
  ok : r.ok
  code : r.err = 0 → isCode k = true
  len : r.ids.length ≤ i
  ids : r.ids ≠ [] → isCount k = false ∧ k ≠ 10 ∧ k ≠ 18 ∧ k ≠ 19
theorem in64_nat {n i : Nat} (h : n ≤ i) (hi : i ≤ 1000000) : In64 (n : Int) := ⟨by omega, by omega⟩
theorem rep_few {M : ModV} {i : Nat} (h : Few M i) (hi : i ≤ 1000) (o : OpV) (ho : o.ok) (an rn : Nat) (ha : an < wTop) (hr : rn < wTop) : RepFew o.k (doR o M an rn).1 i := by
  have w0 : 0 < wTop := by unfold wTop; omega
  have i0 : In64 0 := ⟨by decide, by decide⟩
  have nil : ∀ (e c : Int), In64 e → In64 c → (e = 0 → isCode o.k = true) → RepFew o.k ⟨e, [], c, false, 0⟩ i := fun e c he hc hk => ⟨⟨he, hc, fun x hx => (by cases hx), w0⟩, hk, by simp, fun hn => absurd rfl hn⟩
  unfold doR
  cases hcd : isCode o.k with
  | false => rw [if_pos rfl]; exact ⟨⟨show In64 260 from ⟨by decide, by decide⟩, i0, fun x hx => (by cases hx), w0⟩, fun hn => (by cases hn), by simp, fun hn => absurd rfl hn⟩
  | true =>
    rw [if_neg (by decide)]
    rw [hcd] at nil
    have cm : ∀ {α : Type} (k : RecK α) (L : List α) (x : α), L.length ≤ i → In64 (comeV k M.room L x).1 ∧ In64 (comeV k M.room L x).2.1 := fun k L x hL => by
      unfold comeV
      split
      · exact ⟨show In64 262 from ⟨by decide, by decide⟩, i0⟩
      · split
        · exact ⟨show In64 5 from ⟨by decide, by decide⟩, i0⟩
        · exact ⟨i0, ⟨by simp only; omega, by simp only; omega⟩⟩
    have lm : ∀ {α : Type} (k : RecK α) (L : List α) (x : Nat), L.length ≤ i → In64 (loseV k L x).1 ∧ In64 (loseV k L x).2.1 := fun k L x hL => by
      unfold loseV
      split
      · exact ⟨i0, in64_nat (Nat.le_trans (List.length_filter_le _ _) hL) (by omega)⟩
      · exact ⟨show In64 263 from ⟨by decide, by decide⟩, i0⟩
    have pp : ∀ (so : PtV → Bool), (∀ x ∈ pickN ptK so M.pts, x < 4294967296) ∧ (pickN ptK so M.pts).length ≤ i := fun so => ⟨fun x hx => by obtain ⟨y, hy, rfl⟩ := pick_mem _ _ _ _ hx; exact h.pid y hy, Nat.le_trans (pick_len _ _ _) h.pts⟩
    have ps : ∀ (so : SpV → Bool), (∀ x ∈ pickN spK so M.sps, x < 4294967296) ∧ (pickN spK so M.sps).length ≤ i := fun so => ⟨fun x hx => by obtain ⟨y, hy, rfl⟩ := pick_mem _ _ _ _ hx; exact h.sid y hy, Nat.le_trans (pick_len _ _ _) h.sps⟩
    have pb : ∀ (so : BxV → Bool), (∀ x ∈ pickN bxK so M.bxs, x < 4294967296) ∧ (pickN bxK so M.bxs).length ≤ i := fun so => ⟨fun x hx => by obtain ⟨y, hy, rfl⟩ := pick_mem _ _ _ _ hx; exact h.bid y hy, Nat.le_trans (pick_len _ _ _) h.bxs⟩
    split
    · have e64 : In64 (changeR o M).1 ∧ In64 (changeR o M).2.1 := by
        unfold changeR
        split
        · exact cm ptK _ _ h.pts
        · split
          · split
            · exact ⟨show In64 261 from ⟨by decide, by decide⟩, i0⟩
            · exact cm spK _ _ h.sps
          · split
            · split
              · exact ⟨show In64 261 from ⟨by decide, by decide⟩, i0⟩
              · exact cm bxK _ _ h.bxs
            · split
              · exact lm ptK _ _ h.pts
              · split
                · exact lm spK _ _ h.sps
                · exact lm bxK _ _ h.bxs
      exact nil _ _ e64.1 e64.2 fun _ => rfl
    · rename_i h6
      have nc : (¬ (o.k = 8 ∨ o.k = 12)) → o.k ≠ 16 → isCount o.k = false := fun a b => by unfold isCount; simp; omega
      split
      · unfold pointR
        split
        · exact nil _ _ i0 (in64_nat (pp _).2 (by omega)) fun _ => rfl
        · split
          · exact ⟨⟨i0, i0, fun x hx => (by cases hx), w0⟩, fun _ => hcd, by simp, fun hn => absurd rfl hn⟩
          · rename_i h14 h8 h10
            exact ⟨⟨i0, i0, (pp _).1, w0⟩, fun _ => hcd, (pp _).2, fun _ => ⟨nc h8 (by omega), h10, by omega, by omega⟩⟩
      · rename_i h14
        unfold otherR
        split
        · exact ⟨⟨i0, i0, (ps _).1, w0⟩, fun _ => hcd, (ps _).2, fun _ => ⟨nc (by omega) (by omega), by omega, by omega, by omega⟩⟩
        · split
          · exact nil _ _ i0 (in64_nat (ps _).2 (by omega)) fun _ => rfl
          · rename_i h15 h16
            split
            · exact ⟨⟨i0, i0, (ps _).1, w0⟩, fun _ => hcd, (ps _).2, fun _ => ⟨nc (by omega) (by omega), by omega, by omega, by omega⟩⟩
            · split
              · exact ⟨⟨i0, i0, fun x hx => (by cases hx), ha⟩, fun _ => hcd, by simp, fun hn => absurd rfl hn⟩
              · split
                · exact ⟨⟨i0, i0, fun x hx => (by cases hx), hr⟩, fun _ => hcd, by simp, fun hn => absurd rfl hn⟩
                · exact ⟨⟨i0, i0, (pb _).1, w0⟩, fun _ => hcd, (pb _).2, fun _ => ⟨nc (by omega) (by omega), by omega, by omega, by omega⟩⟩
theorem tail_cons (x : Nat) (l : List Nat) : Lib.joinTail [32] ((x :: l).map decDigits) = 32 :: (decDigits x ++ Lib.joinTail [32] (l.map decDigits)) := by simp [Lib.joinTail]
/-- A byte of a told line. -/
def PlainC (c : UInt8) : Prop := c.toNat < 128 ∧ c ≠ 10
theorem plain_digit {c : UInt8} (h : 48 ≤ c.toNat ∧ c.toNat ≤ 57) : PlainC c := ⟨by omega, fun e => by rw [e] at h; exact absurd h (by decide)⟩
theorem dec_plain (n : Nat) : ∀ c ∈ decDigits n, PlainC c := fun c hc => plain_digit (dec_digits n c hc)
theorem itoa_plain (n : Int) : ∀ c ∈ itoa n, PlainC c := by
  unfold itoa
  split
  · intro c hc
    rcases List.mem_cons.1 hc with rfl | hc
    · exact ⟨by decide, by decide⟩
    · exact dec_plain _ c hc
  · exact dec_plain _
/-- A line that does not begin with an e. -/
def NotE (l : List UInt8) : Prop := ∃ c r, l = c :: r ∧ c ≠ 101
theorem dec_notE (n : Nat) (r : List UInt8) : NotE (decDigits n ++ r) := by
  obtain ⟨c, t, e, h1, h2⟩ := dec_first n
  exact ⟨c, t ++ r, by rw [e]; rfl, fun e => by rw [e] at h2; exact absurd h2 (by decide)⟩
theorem itoa_notE (n : Int) : NotE (itoa n) := by
  unfold itoa
  split
  · exact ⟨45, _, rfl, by decide⟩
  · simpa using dec_notE _ []
theorem NotE.pre {l : List UInt8} (h : NotE l) : Lib.hasPrefix l errW = false := by
  obtain ⟨c, r, rfl, hc⟩ := h
  unfold Lib.hasPrefix errW
  simp [List.isPrefixOf]
  intro e
  exact absurd e.symm hc
theorem joinTail_plain : ∀ ids : List Nat, ∀ c ∈ Lib.joinTail [32] (ids.map decDigits), PlainC c
  | [] => fun c hc => by simp [Lib.joinTail] at hc
  | x :: ids => fun c hc => by
    rw [tail_cons] at hc
    rcases List.mem_cons.1 hc with rfl | hc
    · exact ⟨by decide, by decide⟩
    rcases List.mem_append.1 hc with hc | hc
    · exact dec_plain x c hc
    · exact joinTail_plain ids c hc
theorem ids_plain (ids : List Nat) : ∀ c ∈ idsL ids, PlainC c := by
  unfold idsL
  split
  · intro c hc
    have : ∀ c ∈ noneW, PlainC c := by unfold noneW PlainC; decide
    exact this c hc
  · cases ids with
    | nil => rename_i h; exact absurd rfl h
    | cons x l =>
      intro c hc
      rw [List.map_cons, Lib.join_cons] at hc
      rcases List.mem_append.1 hc with hc | hc
      · exact dec_plain x c hc
      · exact joinTail_plain l c hc
theorem ids_notE (ids : List Nat) : NotE (idsL ids) := by
  unfold idsL
  split
  · exact ⟨110, _, rfl, by decide⟩
  · cases ids with
    | nil => rename_i h; exact absurd rfl h
    | cons x l => rw [List.map_cons, Lib.join_cons]; exact dec_notE x _
theorem told_plain (k : Nat) (r : RepV) : ∀ c ∈ toldR k r, PlainC c := by
  unfold toldR
  split
  · intro c hc
    rcases List.mem_append.1 hc with hc | hc
    · have : ∀ c ∈ errW, PlainC c := by unfold errW PlainC; decide
      exact this c hc
    · exact itoa_plain _ c hc
  · split
    · exact itoa_plain _
    · split
      · split
        · have : ∀ c ∈ yesW, PlainC c := by unfold yesW PlainC; decide
          exact this
        · have : ∀ c ∈ noW, PlainC c := by unfold noW PlainC; decide
          exact this
      · split
        · exact dec_plain _
        · split
          · exact ids_plain _
          · intro c hc; cases hc
theorem told_pre {k : Nat} {r : RepV} {i : Nat} (h : RepFew k r i) : toldR k r ≠ [] ∧ Lib.hasPrefix (toldR k r) errW = decide (r.err ≠ 0) := by
  by_cases he : r.err = 0
  · have hN : NotE (toldR k r) := by
      unfold toldR
      rw [if_neg (fun h => h he), h.code he, if_pos rfl]
      split
      · exact itoa_notE _
      · split
        · split
          · exact ⟨121, _, rfl, by decide⟩
          · exact ⟨110, _, rfl, by decide⟩
        · split
          · have h := dec_notE r.wide []
            rw [List.append_nil] at h
            exact h
          · exact ids_notE _
    refine ⟨fun e => ?_, ?_⟩
    · obtain ⟨c, t, e2, _⟩ := hN
      rw [e] at e2
      cases e2
    · rw [hN.pre, decide_eq_false (fun h => h he)]
  · have e : toldR k r = errW ++ itoa r.err := by unfold toldR; rw [if_pos he]
    rw [e, decide_eq_true he]
    exact ⟨by unfold errW; simp, by unfold Lib.hasPrefix; exact List.isPrefixOf_iff_prefix.2 (List.prefix_append _ _)⟩
theorem fields_dec : ∀ (ids : List Nat) (x : Nat), Lib.fields (decDigits x ++ Lib.joinTail [32] (ids.map decDigits)) = decDigits x :: ids.map decDigits
  | [], x => by
    unfold Lib.fields
    rw [show Lib.joinTail [32] (([] : List Nat).map decDigits) = [] from rfl, fieldsGo_ink _ [] [] (dec_ink x).2, List.nil_append, fieldsGo, if_neg (by simpa using (dec_ink x).1)]
    rfl
  | y :: ids, x => by
    have ih := fields_dec ids y
    unfold Lib.fields at ih ⊢
    rw [tail_cons, fieldsGo_ink _ [] _ (dec_ink x).2, List.nil_append, Lib.fieldsGo_end _ 32 _ (by decide) (dec_ink x).1, ih, List.map_cons]
theorem told_fields {k : Nat} {r : RepV} {i : Nat} (h : RepFew k r i) (he : r.err = 0) (hn : r.ids ≠ []) : Lib.fields (toldR k r) = r.ids.map decDigits := by
  obtain ⟨h1, h2, h3, h4⟩ := h.ids hn
  have e : toldR k r = idsL r.ids := by
    unfold toldR
    rw [if_neg (fun h => h he), h1, if_neg (by decide), if_neg h2, if_neg (fun h => h.elim h3 h4), h.code he, if_pos rfl]
  rw [e]
  unfold idsL
  rw [if_neg hn]
  cases hi : r.ids with
  | nil => exact absurd hi hn
  | cons x l => rw [List.map_cons, Lib.join_cons, fields_dec]
theorem dec_len32 {y : Nat} (hy : y < 4294967296) : (decDigits y).length ≤ 10 := by
  rw [Lib.decDigits_length]
  exact nDig_le (n := y) (k := 10) (Nat.lt_trans hy (by decide)) (by decide)
theorem joinTail_len : ∀ ids : List Nat, (∀ x ∈ ids, x < 4294967296) → (Lib.joinTail [32] (ids.map decDigits)).length ≤ 11 * ids.length
  | [], _ => by simp [Lib.joinTail]
  | x :: ids, h => by
    have ih := joinTail_len ids fun y hy => h y (List.mem_cons_of_mem _ hy)
    have h1 := dec_len32 (h x List.mem_cons_self)
    rw [tail_cons, List.length_cons, List.length_append, List.length_cons]
    omega
theorem told_len {k : Nat} {r : RepV} {i : Nat} (h : RepFew k r i) (hi : i ≤ 1000) : (toldR k r).length ≤ 20000 := by
  have ho := h.ok
  unfold toldR
  split
  · have := itoa_len ho.err
    rw [List.length_append]
    unfold errW
    simp only [List.length_cons, List.length_nil]
    omega
  · split
    · have := itoa_len ho.cnt
      omega
    · split
      · split
        · unfold yesW; decide
        · unfold noW; decide
      · split
        · unfold textL
          rw [Lib.decDigits_length]
          have := nDig_le (n := r.wide) (k := 39) (Nat.lt_of_lt_of_le ho.wide (by unfold wTop; decide)) (by decide)
          omega
        · split
          · unfold idsL
            split
            · unfold noneW; decide
            · rename_i hne
              cases hc : r.ids with
              | nil => exact absurd hc hne
              | cons x l =>
                have hl := h.len
                have hids := ho.ids
                rw [hc] at hl hids
                have h1 := dec_len32 (hids x List.mem_cons_self)
                have h2 := joinTail_len l fun y hy => hids y (List.mem_cons_of_mem _ hy)
                rw [List.map_cons, Lib.join_cons, List.length_append]
                simp only [List.length_cons] at hl
                omega
          · simp
theorem fieldsT (w : World) (ht : Blanks w) (T : ByteArray) (ws : List (List UInt8)) (hT : Lib.fields T.data.toList = ws) (h1 : T.size < 4294967281) (h2 : ∀ x ∈ T.data.toList, x.toNat < 128) : Calls Tryz.prog 21 #[.string T] w fun e w' =>
    e = .returned (.slice (some ⟨w.heap.size, 0, none⟩) ws.length ws.length) ∧ Below w.heap.size w w' := by
  have h := Tryz.strings_Fields T w h1 (fun j b hb => h2 b (List.mem_of_getElem? hb)) ht
  rw [hT] at h
  refine h.mono fun _ _ ⟨h1, h2⟩ => ⟨h1, ?_⟩
  rw [h2]; exact (Below.refl _ _).alloc (Nat.le_refl _) _
theorem index_none : ∀ (l : List UInt8), (10 : UInt8) ∉ l → Lib.indexByte l 10 = -1
  | [], _ => rfl
  | c :: l, h => by
    have ih := index_none l fun hx => h (List.mem_cons_of_mem _ hx)
    unfold Lib.indexByte
    rw [if_neg (by simp; rintro rfl; exact h List.mem_cons_self), ih, if_pos (by decide)]
set_option maxRecDepth 100000 in
set_option maxHeartbeats 1000000 in
theorem contains10 (s : ByteArray) (hs : (10 : UInt8) ∉ s.data.toList) (w : World) : Calls Tryz.prog 28 #[.string s, .string ⟨#[10]⟩] w fun e w' => e = .returned (.bool false) ∧ w = w' := by
  have hi := index_none _ hs
  have key : ∀ w : World, Calls Tryz.prog 73 #[.string s, .string ⟨#[10]⟩] w fun e w' => e = .returned (.int .i64 (-1)) ∧ w = w' := by
    intro w
    have HI := Lib.hid hi
    clear hi hs
    go_enter Tryz.func73, Tryz.ntmps73
    go_wp2_with fail
    refine (Tryz.stringslite_Index_one s 10 w).mono ?_
    rw [HI.out]
    rintro e w1 ⟨rfl, rfl⟩
    go_wp2_with fail
    go_ret
    exact ⟨rfl, rfl⟩
  have HKEY := Lib.hid key
  clear hi hs key
  go_enter Tryz.func28, Tryz.ntmps28
  go_wp2_with fail
  refine (HKEY.out w).mono ?_
  rintro e w1 ⟨rfl, rfl⟩
  go_wp2_with fail
  go_ret
  exact ⟨rfl, rfl⟩
end Go.Proofs.YtokpgopdkimmmaaGreatDoor
/- OpsTold: what a model tells of an operation is one line (written by gen/opstold.py). -/
namespace Go.Proofs.YtokpgopdkimmmaaGreatDoor
open Go.RowKit Go.Maps
set_option linter.unusedVariables false
set_option linter.unusedSimpArgs false

theorem opcs {w : World} {ga lo : Nat} {ls : List OpV} {i k id : Nat} {a b c d : Int} (h : OpRow w (some ⟨ga, lo, none⟩) ls) (hx : ls[i]? = some ⟨k, a, b, c, d, id⟩) : w.cell? ⟨ga, lo + i * 6, none⟩ = some (.int .u8 (k : Int)) ∧ w.cell? ⟨ga, lo + i * 6 + 1, none⟩ = some (.int .i64 a) ∧ w.cell? ⟨ga, lo + i * 6 + 2, none⟩ = some (.int .i64 b) ∧ w.cell? ⟨ga, lo + i * 6 + 3, none⟩ = some (.int .i64 c) ∧ w.cell? ⟨ga, lo + i * 6 + 4, none⟩ = some (.int .i64 d) ∧ w.cell? ⟨ga, lo + i * 6 + 5, none⟩ = some (.int .u32 (id : Int)) := by
  obtain ⟨g, l, hg, _, hc⟩ := RecRow.at_ h hx
  cases hg
  exact ⟨hc 0 (by omega), hc 1 (by omega), hc 2 (by omega), hc 3 (by omega), hc 4 (by omega), hc 5 (by omega)⟩
theorem rcs {w : World} {b : Nat} {v0 v1 v2 v3 v4 v5 : Value} (h : Blk w b 33 #[v0, v1, v2, v3, v4, v5]) : w.cell? ⟨b, 0, none⟩ = some v0 ∧ w.cell? ⟨b, 1, none⟩ = some v1 ∧ w.cell? ⟨b, 2, none⟩ = some v2 ∧ w.cell? ⟨b, 3, none⟩ = some v3 ∧ w.cell? ⟨b, 4, none⟩ = some v4 ∧ w.cell? ⟨b, 5, none⟩ = some v5 := ⟨h.cell 0, h.cell 1, h.cell 2, h.cell 3, h.cell 4, h.cell 5⟩
set_option maxRecDepth 100000 in
set_option maxHeartbeats 8000000 in
theorem OpsTold_walk (ls : List OpV) (hl : ∀ o ∈ ls, o.ok) (A : Option Addr) (ca : Nat) (hln : ls.length ≤ 1000000000000000) (w : World) (hA : OpRow w A ls) (hE : Env27 w) :
    Calls Tryz.prog 5 #[.slice A ls.length ca] w fun e w' => e = .returned (.bool true) ∧ Below w.heap.size w w' := by
  have HE := Lib.hid hE
  have HA := Lib.hid hA
  have HL := Lib.hid hl
  clear hE hA hl
  go_enter Tryz.func5, Tryz.ntmps5
  go_wp2_with fail
  refine (mnew_any 50 (by omega) (by omega) _).mono ?_
  rintro e w1 ⟨m, p, s, b, rfl, hM, hp, hb1⟩
  have HM1 := Lib.hid hM
  have HB1 := Lib.hid hb1
  have HPP := Lib.hid (show w.heap.size ≤ p ∧ p < s ∧ s < b from ⟨hp, hM.ord.1, hM.ord.2.1⟩)
  clear hM hp hb1
  go_wp2_with fail
  go_loopw [5] (fun u wr => ∃ (i : Nat) (M : ModV), i ≤ 30 ∧ i ≤ ls.length ∧ u = .int .i64 (i : Int) ∧ Hid (Few M i) ∧ Hid (ModelAt wr m p s b i M) ∧ Hid (Below w.heap.size w wr)) (fun u _ => 30 - (intOf u).toNat)
  case atStart => exact ⟨0, _, by omega, by omega, rfl, Lib.hid ⟨by simp, by simp, by simp, (fun x hx => (by cases hx)), (fun x hx => (by cases hx)), (fun x hx => (by cases hx)), (fun x hx => (by cases hx))⟩, HM1, HB1⟩
  case round =>
    clear HM1 HB1
    obtain ⟨i, M, hi, hil, rfl, HF, HM, HQ⟩ := hrel
    by_cases hlt : i < ls.length ∧ i < 30
    · obtain ⟨h1, h2⟩ := hlt
      have d1 : decide ((i : Int) < (ls.length : Int)) = true := decide_eq_true (by omega)
      have d2 : decide ((i : Int) < 30) = true := decide_eq_true (by omega)
      obtain ⟨o, ho⟩ : ∃ o, ls[i]? = some o := ⟨_, List.getElem?_eq_getElem h1⟩
      have HO := Lib.hid (HL.out o (List.mem_of_getElem? ho))
      have HX := Lib.hid ho
      have HAW := Lib.hid (RecRow.later HA.out HQ.out)
      obtain ⟨ga, lo, rfl, hgl, _⟩ := RecRow.at_ HAW.out ho
      obtain ⟨ok, oa, ob, oc, od, oi⟩ := o
      obtain ⟨c0, c1, c2, c3, c4, c5⟩ := opcs HAW.out ho
      have hidx : (0 : Int) ≤ (i : Int) ∧ (i : Int) < (ls.length : Int) := by omega
      clear ho
      go_upto_region 7 with fail
      go_wp2_with fail
      have HSW := Lib.hid (swept_any HM.out (by have := HF.out.bxs; omega) HF.out.b64)
      refine (mdo_any ⟨ok, oa, ob, oc, od, oi⟩ HO.out m p s b i M wr HM.out (by omega) (by have := HF.out.pts; omega) ⟨by have := HF.out.sps; omega, by have := HF.out.bxs; omega⟩ _ _ HSW.out.1 HSW.out.2).mono ?_
      rintro e w2 ⟨AA, cc, rfl, hr, hM2, hT⟩
      have HQ2 := Lib.hid (HQ.out.trans (hT.below HQ.out.size fun i h => by have := HPP.out; omega))
      have HRF := rep_few HF.out (by omega) ⟨ok, oa, ob, oc, od, oi⟩ HO.out (areaL (allB M.bxs)) (rimL (allB M.bxs)) (areaL_lt _) (rimL_lt _)
      have HF2 := few_do HF.out ⟨ok, oa, ob, oc, od, oi⟩ HO.out (areaL (allB M.bxs)) (rimL (allB M.bxs))
      generalize hM3 : (doR ⟨ok, oa, ob, oc, od, oi⟩ M (areaL (allB M.bxs)) (rimL (allB M.bxs))).2 = M2 at hM2 HF2
      generalize hR3 : (doR ⟨ok, oa, ob, oc, od, oi⟩ M (areaL (allB M.bxs)) (rimL (allB M.bxs))).1 = RR at hr HRF ⊢
      clear hM3 hR3
      obtain ⟨re, ri, rc, ry, rw0⟩ := RR
      replace HRF := Lib.hid HRF
      replace HF2 := Lib.hid HF2
      obtain ⟨hi, hhi⟩ : ∃ hi : Int, ((rw0 / 18446744073709551616 : Nat) : Int) = hi := ⟨_, rfl⟩
      obtain ⟨lw, hlw⟩ : ∃ lo : Int, ((rw0 % 18446744073709551616 : Nat) : Int) = lo := ⟨_, rfl⟩
      obtain ⟨n, hn⟩ : ∃ n, ri.length = n := ⟨_, rfl⟩
      have HV := Lib.hid (show repV ⟨re, ri, rc, ry, rw0⟩ AA cc = .agg #[.int .i64 re, .slice AA n cc, .int .i64 rc, .bool ry, .int .u64 hi, .int .u64 lw] by rw [← hhi, ← hlw, ← hn])
      have HNL := Lib.hid hn
      have hn30 : n ≤ 30 := by have := HRF.out.len; simp only at this; omega
      have KR := Lib.hid (Blk.new w2 33 #[.int .i64 re, .slice AA n cc, .int .i64 rc, .bool ry, .int .u64 hi, .int .u64 lw])
      have hal := (Below.refl w2.heap.size w2).alloc (Nat.le_refl _) (.cells #[.int .i64 re, .slice AA n cc, .int .i64 rc, .bool ry, .int .u64 hi, .int .u64 lw] 33)
      have HM0 := Lib.hid (hM2.later hal)
      have HQ0 := Lib.hid (bl HQ2.out HQ2.out.size hal)
      have HR0 := Lib.hid (RecRow.later hr hal)
      have HA0 := Lib.hid (RecRow.later HA.out HQ0.out)
      rw [HV.out]
      clear hhi hlw hn hal hr hM2 hT c0 c1 c2 c3 c4 c5 HAW HSW
      go_upto_region 8 with fail
      generalize w2.alloc _ = W0 at KR HM0 HQ0 HR0 HA0 ⊢
      obtain ⟨tl, htl⟩ : ∃ t, toldR ok ⟨re, ri, rc, ry, rw0⟩ = t := ⟨_, rfl⟩
      have HTL := Lib.hid htl
      have HTD := Lib.hid (fun W (hW : Below W0.heap.size W0 W) => show Calls Tryz.prog 14 #[.agg #[.int .u8 (ok : Int), .int .i64 oa, .int .i64 ob, .int .i64 oc, .int .i64 od, .int .u32 (oi : Int)], .agg #[.int .i64 re, .slice AA n cc, .int .i64 rc, .bool ry, .int .u64 hi, .int .u64 lw]] W (fun e w' => e = .returned (.string ⟨tl.toArray⟩) ∧ Below W.heap.size W w') by
        rw [← HV.out, ← HTL.out]
        exact rep_any ⟨ok, oa, ob, oc, od, oi⟩ HO.out ⟨re, ri, rc, ry, rw0⟩ HRF.out.ok AA cc W (by have := HNL.out; simp only; omega) (RecRow.later HR0.out hW) ((HE.out.later HQ0.out).later hW).t ((HE.out.later HQ0.out).later hW).k)
      have HN10 := Lib.hid (show (10 : UInt8) ∉ (ByteArray.mk tl.toArray).data.toList by
        intro hx
        have hx2 : (10 : UInt8) ∈ tl := by simpa using hx
        rw [← HTL.out] at hx2
        exact (told_plain ok _ 10 hx2).2 rfl)
      have HPR := Lib.hid (fun W => show Calls Tryz.prog 29 #[.string ⟨tl.toArray⟩, .string ⟨#[101, 114, 114, 111, 114, 32]⟩] W (fun e w' => e = .returned (.bool (decide (re ≠ 0))) ∧ W = w') from (by have h := hasPre tl errW W; rw [← HTL.out, (told_pre HRF.out).2, HTL.out] at h; exact h))
      have HFI0 := Lib.hid (fun (hre : re = 0) (hn : n ≠ 0) W (hW : Below W0.heap.size W0 W) => show Calls Tryz.prog 21 #[.string ⟨tl.toArray⟩] W (fun e w' => e = .returned (.slice (some ⟨W.heap.size, 0, none⟩) n n) ∧ Below W.heap.size W w') from (by
        have hri : ri ≠ [] := fun e => hn (by rw [← HNL.out, e]; rfl)
        have h := fieldsT W ((HE.out.later HQ0.out).later hW).k ⟨tl.toArray⟩ (ri.map Lib.decDigits) (by simp only; rw [← HTL.out]; exact told_fields HRF.out hre hri) (by rw [mk_size, ← HTL.out]; have := told_len HRF.out (by omega); omega) (fun x hx => (told_plain ok _ x (by rw [HTL.out]; simpa using hx)).1)
        rw [List.length_map, HNL.out] at h
        exact h))
      have hne : ¬ tl = [] := by rw [← HTL.out]; exact (told_pre HRF.out).1
      clear htl
      refine wp_region_until (fun w' => Below W0.heap.size W0 w') [0, 1, 2, 3, 4, 5, 6] (by kernel_rfl) ?_
      have hS : (fun w' => Below W0.heap.size W0 w') W0.drew := (Below.refl _ _).drew
      refine wpAnyG_take (i := 0) rfl (by kernel_rfl) (by kernel_rfl) (by kernel_rfl) (by kernel_rfl) (by kernel_rfl) (by kernel_rfl) (fun _ _ _ h => h) rfl (by intro w' hb; go_simp; try rfl) hS ?_
      (try simp only [Act.put, List.getElem_toArray, List.getElem_cons_succ, List.getElem_cons_zero, List.setIfInBounds_toArray, List.set_cons_zero, List.set_cons_succ])
      refine wpAnyG_take (i := 1) rfl (by kernel_rfl) (by kernel_rfl) (by kernel_rfl) (by kernel_rfl) (by kernel_rfl) (by kernel_rfl) (fun _ _ _ h => h) rfl (by intro w' hb; go_simp; try rfl) hS ?_
      (try simp only [Act.put, List.getElem_toArray, List.getElem_cons_succ, List.getElem_cons_zero, List.setIfInBounds_toArray, List.set_cons_zero, List.set_cons_succ])
      refine wpAnyG_take (i := 2) rfl (by kernel_rfl) (by kernel_rfl) (by kernel_rfl) (by kernel_rfl) (by kernel_rfl) (by kernel_rfl) (fun _ _ _ h => h) rfl (by intro w' hb; go_simp; try rfl) hS ?_
      (try simp only [Act.put, List.getElem_toArray, List.getElem_cons_succ, List.getElem_cons_zero, List.setIfInBounds_toArray, List.set_cons_zero, List.set_cons_succ])
      refine wpAnyG_take (i := 3) rfl (by kernel_rfl) (by kernel_rfl) (by kernel_rfl) (by kernel_rfl) (by kernel_rfl) (by kernel_rfl) (fun _ _ _ h => h) rfl (by intro w' hb; obtain ⟨c0, c1, c2, c3, c4, c5⟩ := opcs (RecRow.later HA0.out hb) HX.out; obtain ⟨r0, r1, r2, r3, r4, r5⟩ := rcs (Blk.below KR.out hb (Blk.lt KR.out)); go_simp; try rfl) hS ?_
      (try simp only [Act.put, List.getElem_toArray, List.getElem_cons_succ, List.getElem_cons_zero, List.setIfInBounds_toArray, List.set_cons_zero, List.set_cons_succ])
      refine wpAnyG_take (i := 4) rfl (by kernel_rfl) (by kernel_rfl) (by kernel_rfl) (by kernel_rfl) (by kernel_rfl) (by kernel_rfl) (fun _ _ _ h => h) rfl (by intro w' hb; obtain ⟨c0, c1, c2, c3, c4, c5⟩ := opcs (RecRow.later HA0.out hb) HX.out; obtain ⟨r0, r1, r2, r3, r4, r5⟩ := rcs (Blk.below KR.out hb (Blk.lt KR.out)); go_simp; try rfl) hS ?_
      (try simp only [Act.put, List.getElem_toArray, List.getElem_cons_succ, List.getElem_cons_zero, List.setIfInBounds_toArray, List.set_cons_zero, List.set_cons_succ])
      refine wpAnyG_step (i := 5) rfl (by kernel_rfl) rfl (fun K hK => ?_)
      go_simp
      refine (HTD.out _ hS).mono ?_
      rintro e y1 ⟨rfl, hb⟩
      refine hK.out _ _ (bl hS hS.size hb) (fun hS => ?_)
      clear hK K
      clear hb
      (try simp only [Act.put, List.getElem_toArray, List.getElem_cons_succ, List.getElem_cons_zero, List.setIfInBounds_toArray, List.set_cons_zero, List.set_cons_succ])
      refine wpAnyG_take (i := 6) rfl (by kernel_rfl) (by kernel_rfl) (by kernel_rfl) (by kernel_rfl) (by kernel_rfl) (by kernel_rfl) (fun _ _ _ h => h) rfl (by intro w' hb; go_simp; try rfl) hS ?_
      (try simp only [Act.put, List.getElem_toArray, List.getElem_cons_succ, List.getElem_cons_zero, List.setIfInBounds_toArray, List.set_cons_zero, List.set_cons_succ])
      refine wpAnyU_done (by kernel_rfl) ?_ _
      have HS8 := Lib.hid hS
      clear hS
      by_cases hre : re = 0
      · obtain rfl := hre
        have HPRE := Lib.hid (fun W => HPR.out W)
        have HFI0 := Lib.hid (HFI0.out rfl)
        rw [show decide ((0 : Int) ≠ 0) = false from rfl] at HPRE
        go_upto_region 9 with fail
        refine wp_region_until (fun w' => Below W0.heap.size W0 w') [0, 1, 2, 3, 4, 5, 6, 7, 8, 9, 10, 11, 12, 13] (by kernel_rfl) ?_
        have hS := HS8.out.drew
        refine wpAnyG_take (i := 0) rfl (by kernel_rfl) (by kernel_rfl) (by kernel_rfl) (by kernel_rfl) (by kernel_rfl) (by kernel_rfl) (fun _ _ _ h => h) rfl (by intro w' hb; go_simp; try rfl) hS ?_
        (try simp only [Act.put, List.getElem_toArray, List.getElem_cons_succ, List.getElem_cons_zero, List.setIfInBounds_toArray, List.set_cons_zero, List.set_cons_succ])
        refine wpAnyG_take (i := 1) (v := .bool false) rfl (by kernel_rfl) (by kernel_rfl) (by kernel_rfl) (by kernel_rfl) (by kernel_rfl) (by kernel_rfl) (fun _ _ _ h => h) rfl (by intro w' hb; go_simp; try rfl) hS ?_
        (try simp only [Act.put, List.getElem_toArray, List.getElem_cons_succ, List.getElem_cons_zero, List.setIfInBounds_toArray, List.set_cons_zero, List.set_cons_succ])
        refine wpAnyG_take (i := 2) rfl (by kernel_rfl) (by kernel_rfl) (by kernel_rfl) (by kernel_rfl) (by kernel_rfl) (by kernel_rfl) (fun _ _ _ h => h) rfl (by intro w' hb; go_simp; try rfl) hS ?_
        (try simp only [Act.put, List.getElem_toArray, List.getElem_cons_succ, List.getElem_cons_zero, List.setIfInBounds_toArray, List.set_cons_zero, List.set_cons_succ])
        refine wpAnyG_take (i := 3) rfl (by kernel_rfl) (by kernel_rfl) (by kernel_rfl) (by kernel_rfl) (by kernel_rfl) (by kernel_rfl) (fun _ _ _ h => h) rfl (by intro w' hb; go_simp; try rfl) hS ?_
        (try simp only [Act.put, List.getElem_toArray, List.getElem_cons_succ, List.getElem_cons_zero, List.setIfInBounds_toArray, List.set_cons_zero, List.set_cons_succ])
        refine wpAnyG_step (i := 4) rfl (by kernel_rfl) rfl (fun K hK => ?_)
        go_simp
        refine (contains10 ⟨tl.toArray⟩ HN10.out _).mono ?_
        rintro e y2 ⟨rfl, rfl⟩
        refine hK.out _ _ (hS) (fun hS => ?_)
        clear hK K
        (try simp only [Act.put, List.getElem_toArray, List.getElem_cons_succ, List.getElem_cons_zero, List.setIfInBounds_toArray, List.set_cons_zero, List.set_cons_succ])
        refine wpAnyG_take (i := 5) (v := .bool false) rfl (by kernel_rfl) (by kernel_rfl) (by kernel_rfl) (by kernel_rfl) (by kernel_rfl) (by kernel_rfl) (fun _ _ _ h => h) rfl (by intro w' hb; go_simp; try rfl) hS ?_
        (try simp only [Act.put, List.getElem_toArray, List.getElem_cons_succ, List.getElem_cons_zero, List.setIfInBounds_toArray, List.set_cons_zero, List.set_cons_succ])
        refine wpAnyG_take (i := 6) rfl (by kernel_rfl) (by kernel_rfl) (by kernel_rfl) (by kernel_rfl) (by kernel_rfl) (by kernel_rfl) (fun _ _ _ h => h) rfl (by intro w' hb; go_simp; try rfl) hS ?_
        (try simp only [Act.put, List.getElem_toArray, List.getElem_cons_succ, List.getElem_cons_zero, List.setIfInBounds_toArray, List.set_cons_zero, List.set_cons_succ])
        refine wpAnyG_take (i := 7) rfl (by kernel_rfl) (by kernel_rfl) (by kernel_rfl) (by kernel_rfl) (by kernel_rfl) (by kernel_rfl) (fun _ _ _ h => h) rfl (by intro w' hb; go_simp; try rfl) hS ?_
        (try simp only [Act.put, List.getElem_toArray, List.getElem_cons_succ, List.getElem_cons_zero, List.setIfInBounds_toArray, List.set_cons_zero, List.set_cons_succ])
        refine wpAnyG_take (i := 9) rfl (by kernel_rfl) (by kernel_rfl) (by kernel_rfl) (by kernel_rfl) (by kernel_rfl) (by kernel_rfl) (fun _ _ _ h => h) rfl (by intro w' hb; go_simp; try rfl) hS ?_
        (try simp only [Act.put, List.getElem_toArray, List.getElem_cons_succ, List.getElem_cons_zero, List.setIfInBounds_toArray, List.set_cons_zero, List.set_cons_succ])
        refine wpAnyG_take (i := 10) rfl (by kernel_rfl) (by kernel_rfl) (by kernel_rfl) (by kernel_rfl) (by kernel_rfl) (by kernel_rfl) (fun _ _ _ h => h) rfl (by intro w' hb; obtain ⟨c0, c1, c2, c3, c4, c5⟩ := opcs (RecRow.later HA0.out hb) HX.out; obtain ⟨r0, r1, r2, r3, r4, r5⟩ := rcs (Blk.below KR.out hb (Blk.lt KR.out)); go_simp; try rfl) hS ?_
        (try simp only [Act.put, List.getElem_toArray, List.getElem_cons_succ, List.getElem_cons_zero, List.setIfInBounds_toArray, List.set_cons_zero, List.set_cons_succ])
        refine wpAnyG_take (i := 11) (v := .bool false) rfl (by kernel_rfl) (by kernel_rfl) (by kernel_rfl) (by kernel_rfl) (by kernel_rfl) (by kernel_rfl) (fun _ _ _ h => h) rfl (by intro w' hb; go_simp; try rfl) hS ?_
        (try simp only [Act.put, List.getElem_toArray, List.getElem_cons_succ, List.getElem_cons_zero, List.setIfInBounds_toArray, List.set_cons_zero, List.set_cons_succ])
        refine wpAnyG_step (i := 8) rfl (by kernel_rfl) rfl (fun K hK => ?_)
        go_simp
        refine (HPRE.out _).mono ?_
        rintro e y2 ⟨rfl, rfl⟩
        refine hK.out _ _ (hS) (fun hS => ?_)
        clear hK K
        (try simp only [Act.put, List.getElem_toArray, List.getElem_cons_succ, List.getElem_cons_zero, List.setIfInBounds_toArray, List.set_cons_zero, List.set_cons_succ])
        refine wpAnyG_take (i := 12) (v := .bool false) rfl (by kernel_rfl) (by kernel_rfl) (by kernel_rfl) (by kernel_rfl) (by kernel_rfl) (by kernel_rfl) (fun _ _ _ h => h) rfl (by intro w' hb; go_simp; try rfl) hS ?_
        (try simp only [Act.put, List.getElem_toArray, List.getElem_cons_succ, List.getElem_cons_zero, List.setIfInBounds_toArray, List.set_cons_zero, List.set_cons_succ])
        refine wpAnyG_take (i := 13) (v := .bool false) rfl (by kernel_rfl) (by kernel_rfl) (by kernel_rfl) (by kernel_rfl) (by kernel_rfl) (by kernel_rfl) (fun _ _ _ h => h) rfl (by intro w' hb; go_simp; try rfl) hS ?_
        (try simp only [Act.put, List.getElem_toArray, List.getElem_cons_succ, List.getElem_cons_zero, List.setIfInBounds_toArray, List.set_cons_zero, List.set_cons_succ])
        refine wpAnyU_done (by kernel_rfl) ?_ _
        have HS9 := Lib.hid hS
        clear hS
        obtain ⟨r0, r1, r2, r3, r4, r5⟩ := rcs (Blk.below KR.out HS9.out (Blk.lt KR.out))
        by_cases hn : n = 0
        · obtain rfl := hn
          go_wp2_with fail
          go_roundw
          case rel => exact ⟨i + 1, M2, by omega, by omega, by simp, HF2, Lib.hid (HM0.out.later HS9.out), Lib.hid (bl HQ0.out HQ0.out.size HS9.out)⟩
          case measure => simp [intOf]; omega
        · have hnd : decide ((n : Int) = 0) = false := decide_eq_false (by omega)
          have HFI := Lib.hid (HFI0.out hn)
          go_upto_region 12 with fail
          clear r0 r1 r2 r3 r4 r5
          refine wp_region_until (fun w' => Below W0.heap.size W0 w') [0, 1, 2, 3, 4, 5, 6] (by kernel_rfl) ?_
          have hS := HS9.out.drew
          refine wpAnyG_take (i := 0) rfl (by kernel_rfl) (by kernel_rfl) (by kernel_rfl) (by kernel_rfl) (by kernel_rfl) (by kernel_rfl) (fun _ _ _ h => h) rfl (by intro w' hb; go_simp; try rfl) hS ?_
          (try simp only [Act.put, List.getElem_toArray, List.getElem_cons_succ, List.getElem_cons_zero, List.setIfInBounds_toArray, List.set_cons_zero, List.set_cons_succ])
          refine wpAnyG_take (i := 3) rfl (by kernel_rfl) (by kernel_rfl) (by kernel_rfl) (by kernel_rfl) (by kernel_rfl) (by kernel_rfl) (fun _ _ _ h => h) rfl (by intro w' hb; go_simp; try rfl) hS ?_
          (try simp only [Act.put, List.getElem_toArray, List.getElem_cons_succ, List.getElem_cons_zero, List.setIfInBounds_toArray, List.set_cons_zero, List.set_cons_succ])
          refine wpAnyG_take (i := 4) rfl (by kernel_rfl) (by kernel_rfl) (by kernel_rfl) (by kernel_rfl) (by kernel_rfl) (by kernel_rfl) (fun _ _ _ h => h) rfl (by intro w' hb; obtain ⟨c0, c1, c2, c3, c4, c5⟩ := opcs (RecRow.later HA0.out hb) HX.out; obtain ⟨r0, r1, r2, r3, r4, r5⟩ := rcs (Blk.below KR.out hb (Blk.lt KR.out)); go_simp; try rfl) hS ?_
          (try simp only [Act.put, List.getElem_toArray, List.getElem_cons_succ, List.getElem_cons_zero, List.setIfInBounds_toArray, List.set_cons_zero, List.set_cons_succ])
          refine wpAnyG_two (i := 1) (j := 5) rfl rfl (by kernel_rfl) rfl rfl (fun K hK => ?_) (fun K hK => ?_)
          · go_simp
            refine (HFI.out _ hS).mono ?_
            rintro e y3 ⟨rfl, hb⟩
            refine hK.out _ _ (bl hS hS.size hb) (fun hS => ?_)
            clear hK K
            clear hb
            (try simp only [Act.put, List.getElem_toArray, List.getElem_cons_succ, List.getElem_cons_zero, List.setIfInBounds_toArray, List.set_cons_zero, List.set_cons_succ])
            refine wpAnyG_two (i := 2) (j := 5) rfl rfl (by kernel_rfl) rfl rfl (fun K hK => ?_) (fun K hK => ?_)
            · go_simp
              refine hK.out _ _ (hS) (fun hS => ?_)
              clear hK K
              (try simp only [Act.put, List.getElem_toArray, List.getElem_cons_succ, List.getElem_cons_zero, List.setIfInBounds_toArray, List.set_cons_zero, List.set_cons_succ])
              refine wpAnyG_step (i := 5) rfl (by kernel_rfl) rfl (fun K hK => ?_)
              go_simp
              refine hK.out _ _ (hS) (fun hS => ?_)
              clear hK K
              (try simp only [Act.put, List.getElem_toArray, List.getElem_cons_succ, List.getElem_cons_zero, List.setIfInBounds_toArray, List.set_cons_zero, List.set_cons_succ])
              refine wpAnyG_take (i := 6) (v := .bool false) rfl (by kernel_rfl) (by kernel_rfl) (by kernel_rfl) (by kernel_rfl) (by kernel_rfl) (by kernel_rfl) (fun _ _ _ h => h) rfl (by intro w' hb; go_simp; try rfl) hS ?_
              (try simp only [Act.put, List.getElem_toArray, List.getElem_cons_succ, List.getElem_cons_zero, List.setIfInBounds_toArray, List.set_cons_zero, List.set_cons_succ])
              refine wpAnyU_done (by kernel_rfl) ?_ _
              have HS9 := Lib.hid hS
              clear hS
              go_wp2_with fail
              go_roundw
              case rel => exact ⟨i + 1, M2, by omega, by omega, by simp, HF2, Lib.hid (HM0.out.later HS9.out), Lib.hid (bl HQ0.out HQ0.out.size HS9.out)⟩
              case measure => simp [intOf]; omega
            · go_simp
              refine hK.out _ _ (hS) (fun hS => ?_)
              clear hK K
              (try simp only [Act.put, List.getElem_toArray, List.getElem_cons_succ, List.getElem_cons_zero, List.setIfInBounds_toArray, List.set_cons_zero, List.set_cons_succ])
              refine wpAnyG_step (i := 2) rfl (by kernel_rfl) rfl (fun K hK => ?_)
              go_simp
              refine hK.out _ _ (hS) (fun hS => ?_)
              clear hK K
              (try simp only [Act.put, List.getElem_toArray, List.getElem_cons_succ, List.getElem_cons_zero, List.setIfInBounds_toArray, List.set_cons_zero, List.set_cons_succ])
              refine wpAnyG_take (i := 6) (v := .bool false) rfl (by kernel_rfl) (by kernel_rfl) (by kernel_rfl) (by kernel_rfl) (by kernel_rfl) (by kernel_rfl) (fun _ _ _ h => h) rfl (by intro w' hb; go_simp; try rfl) hS ?_
              (try simp only [Act.put, List.getElem_toArray, List.getElem_cons_succ, List.getElem_cons_zero, List.setIfInBounds_toArray, List.set_cons_zero, List.set_cons_succ])
              refine wpAnyU_done (by kernel_rfl) ?_ _
              have HS9 := Lib.hid hS
              clear hS
              go_wp2_with fail
              go_roundw
              case rel => exact ⟨i + 1, M2, by omega, by omega, by simp, HF2, Lib.hid (HM0.out.later HS9.out), Lib.hid (bl HQ0.out HQ0.out.size HS9.out)⟩
              case measure => simp [intOf]; omega
          · go_simp
            refine hK.out _ _ (hS) (fun hS => ?_)
            clear hK K
            (try simp only [Act.put, List.getElem_toArray, List.getElem_cons_succ, List.getElem_cons_zero, List.setIfInBounds_toArray, List.set_cons_zero, List.set_cons_succ])
            refine wpAnyG_step (i := 1) rfl (by kernel_rfl) rfl (fun K hK => ?_)
            go_simp
            refine (HFI.out _ hS).mono ?_
            rintro e y3 ⟨rfl, hb⟩
            refine hK.out _ _ (bl hS hS.size hb) (fun hS => ?_)
            clear hK K
            clear hb
            (try simp only [Act.put, List.getElem_toArray, List.getElem_cons_succ, List.getElem_cons_zero, List.setIfInBounds_toArray, List.set_cons_zero, List.set_cons_succ])
            refine wpAnyG_step (i := 2) rfl (by kernel_rfl) rfl (fun K hK => ?_)
            go_simp
            refine hK.out _ _ (hS) (fun hS => ?_)
            clear hK K
            (try simp only [Act.put, List.getElem_toArray, List.getElem_cons_succ, List.getElem_cons_zero, List.setIfInBounds_toArray, List.set_cons_zero, List.set_cons_succ])
            refine wpAnyG_take (i := 6) (v := .bool false) rfl (by kernel_rfl) (by kernel_rfl) (by kernel_rfl) (by kernel_rfl) (by kernel_rfl) (by kernel_rfl) (fun _ _ _ h => h) rfl (by intro w' hb; go_simp; try rfl) hS ?_
            (try simp only [Act.put, List.getElem_toArray, List.getElem_cons_succ, List.getElem_cons_zero, List.setIfInBounds_toArray, List.set_cons_zero, List.set_cons_succ])
            refine wpAnyU_done (by kernel_rfl) ?_ _
            have HS9 := Lib.hid hS
            clear hS
            go_wp2_with fail
            go_roundw
            case rel => exact ⟨i + 1, M2, by omega, by omega, by simp, HF2, Lib.hid (HM0.out.later HS9.out), Lib.hid (bl HQ0.out HQ0.out.size HS9.out)⟩
            case measure => simp [intOf]; omega
      · have HPRE := Lib.hid (fun W => HPR.out W)
        rw [show decide (re ≠ 0) = true from decide_eq_true hre] at HPRE
        have hrd : decide (re = 0) = false := decide_eq_false hre
        go_upto_region 9 with fail
        refine wp_region_until (fun w' => Below W0.heap.size W0 w') [0, 1, 2, 3, 4, 5, 6, 7, 8, 9, 10, 11, 12, 13] (by kernel_rfl) ?_
        have hS := HS8.out.drew
        refine wpAnyG_take (i := 0) rfl (by kernel_rfl) (by kernel_rfl) (by kernel_rfl) (by kernel_rfl) (by kernel_rfl) (by kernel_rfl) (fun _ _ _ h => h) rfl (by intro w' hb; go_simp; try rfl) hS ?_
        (try simp only [Act.put, List.getElem_toArray, List.getElem_cons_succ, List.getElem_cons_zero, List.setIfInBounds_toArray, List.set_cons_zero, List.set_cons_succ])
        refine wpAnyG_take (i := 1) (v := .bool false) rfl (by kernel_rfl) (by kernel_rfl) (by kernel_rfl) (by kernel_rfl) (by kernel_rfl) (by kernel_rfl) (fun _ _ _ h => h) rfl (by intro w' hb; go_simp; try rfl) hS ?_
        (try simp only [Act.put, List.getElem_toArray, List.getElem_cons_succ, List.getElem_cons_zero, List.setIfInBounds_toArray, List.set_cons_zero, List.set_cons_succ])
        refine wpAnyG_take (i := 2) rfl (by kernel_rfl) (by kernel_rfl) (by kernel_rfl) (by kernel_rfl) (by kernel_rfl) (by kernel_rfl) (fun _ _ _ h => h) rfl (by intro w' hb; go_simp; try rfl) hS ?_
        (try simp only [Act.put, List.getElem_toArray, List.getElem_cons_succ, List.getElem_cons_zero, List.setIfInBounds_toArray, List.set_cons_zero, List.set_cons_succ])
        refine wpAnyG_take (i := 3) rfl (by kernel_rfl) (by kernel_rfl) (by kernel_rfl) (by kernel_rfl) (by kernel_rfl) (by kernel_rfl) (fun _ _ _ h => h) rfl (by intro w' hb; go_simp; try rfl) hS ?_
        (try simp only [Act.put, List.getElem_toArray, List.getElem_cons_succ, List.getElem_cons_zero, List.setIfInBounds_toArray, List.set_cons_zero, List.set_cons_succ])
        refine wpAnyG_step (i := 4) rfl (by kernel_rfl) rfl (fun K hK => ?_)
        go_simp
        refine (contains10 ⟨tl.toArray⟩ HN10.out _).mono ?_
        rintro e y2 ⟨rfl, rfl⟩
        refine hK.out _ _ (hS) (fun hS => ?_)
        clear hK K
        (try simp only [Act.put, List.getElem_toArray, List.getElem_cons_succ, List.getElem_cons_zero, List.setIfInBounds_toArray, List.set_cons_zero, List.set_cons_succ])
        refine wpAnyG_take (i := 5) (v := .bool false) rfl (by kernel_rfl) (by kernel_rfl) (by kernel_rfl) (by kernel_rfl) (by kernel_rfl) (by kernel_rfl) (fun _ _ _ h => h) rfl (by intro w' hb; go_simp; try rfl) hS ?_
        (try simp only [Act.put, List.getElem_toArray, List.getElem_cons_succ, List.getElem_cons_zero, List.setIfInBounds_toArray, List.set_cons_zero, List.set_cons_succ])
        refine wpAnyG_take (i := 6) rfl (by kernel_rfl) (by kernel_rfl) (by kernel_rfl) (by kernel_rfl) (by kernel_rfl) (by kernel_rfl) (fun _ _ _ h => h) rfl (by intro w' hb; go_simp; try rfl) hS ?_
        (try simp only [Act.put, List.getElem_toArray, List.getElem_cons_succ, List.getElem_cons_zero, List.setIfInBounds_toArray, List.set_cons_zero, List.set_cons_succ])
        refine wpAnyG_take (i := 7) rfl (by kernel_rfl) (by kernel_rfl) (by kernel_rfl) (by kernel_rfl) (by kernel_rfl) (by kernel_rfl) (fun _ _ _ h => h) rfl (by intro w' hb; go_simp; try rfl) hS ?_
        (try simp only [Act.put, List.getElem_toArray, List.getElem_cons_succ, List.getElem_cons_zero, List.setIfInBounds_toArray, List.set_cons_zero, List.set_cons_succ])
        refine wpAnyG_take (i := 9) rfl (by kernel_rfl) (by kernel_rfl) (by kernel_rfl) (by kernel_rfl) (by kernel_rfl) (by kernel_rfl) (fun _ _ _ h => h) rfl (by intro w' hb; go_simp; try rfl) hS ?_
        (try simp only [Act.put, List.getElem_toArray, List.getElem_cons_succ, List.getElem_cons_zero, List.setIfInBounds_toArray, List.set_cons_zero, List.set_cons_succ])
        refine wpAnyG_take (i := 10) rfl (by kernel_rfl) (by kernel_rfl) (by kernel_rfl) (by kernel_rfl) (by kernel_rfl) (by kernel_rfl) (fun _ _ _ h => h) rfl (by intro w' hb; obtain ⟨c0, c1, c2, c3, c4, c5⟩ := opcs (RecRow.later HA0.out hb) HX.out; obtain ⟨r0, r1, r2, r3, r4, r5⟩ := rcs (Blk.below KR.out hb (Blk.lt KR.out)); go_simp; try rfl) hS ?_
        (try simp only [Act.put, List.getElem_toArray, List.getElem_cons_succ, List.getElem_cons_zero, List.setIfInBounds_toArray, List.set_cons_zero, List.set_cons_succ])
        refine wpAnyG_take (i := 11) (v := .bool true) rfl (by kernel_rfl) (by kernel_rfl) (by kernel_rfl) (by kernel_rfl) (by kernel_rfl) (by kernel_rfl) (fun _ _ _ h => h) rfl (by intro w' hb; go_simp; try rfl) hS ?_
        (try simp only [Act.put, List.getElem_toArray, List.getElem_cons_succ, List.getElem_cons_zero, List.setIfInBounds_toArray, List.set_cons_zero, List.set_cons_succ])
        refine wpAnyG_step (i := 8) rfl (by kernel_rfl) rfl (fun K hK => ?_)
        go_simp
        refine (HPRE.out _).mono ?_
        rintro e y2 ⟨rfl, rfl⟩
        refine hK.out _ _ (hS) (fun hS => ?_)
        clear hK K
        (try simp only [Act.put, List.getElem_toArray, List.getElem_cons_succ, List.getElem_cons_zero, List.setIfInBounds_toArray, List.set_cons_zero, List.set_cons_succ])
        refine wpAnyG_take (i := 12) (v := .bool false) rfl (by kernel_rfl) (by kernel_rfl) (by kernel_rfl) (by kernel_rfl) (by kernel_rfl) (by kernel_rfl) (fun _ _ _ h => h) rfl (by intro w' hb; go_simp; try rfl) hS ?_
        (try simp only [Act.put, List.getElem_toArray, List.getElem_cons_succ, List.getElem_cons_zero, List.setIfInBounds_toArray, List.set_cons_zero, List.set_cons_succ])
        refine wpAnyG_take (i := 13) (v := .bool false) rfl (by kernel_rfl) (by kernel_rfl) (by kernel_rfl) (by kernel_rfl) (by kernel_rfl) (by kernel_rfl) (fun _ _ _ h => h) rfl (by intro w' hb; go_simp; try rfl) hS ?_
        (try simp only [Act.put, List.getElem_toArray, List.getElem_cons_succ, List.getElem_cons_zero, List.setIfInBounds_toArray, List.set_cons_zero, List.set_cons_succ])
        refine wpAnyU_done (by kernel_rfl) ?_ _
        have HS9 := Lib.hid hS
        clear hS
        obtain ⟨r0, r1, r2, r3, r4, r5⟩ := rcs (Blk.below KR.out HS9.out (Blk.lt KR.out))
        go_wp2_with fail
        go_roundw
        case rel => exact ⟨i + 1, M2, by omega, by omega, by simp, HF2, Lib.hid (HM0.out.later HS9.out), Lib.hid (bl HQ0.out HQ0.out.size HS9.out)⟩
        case measure => simp [intOf]; omega
    · have hlt2 : ¬ i < ls.length ∨ ¬ i < 30 := by omega
      have hd : (decide ((i : Int) < (ls.length : Int)) && decide ((i : Int) < 30)) = false := by rcases hlt2 with h | h <;> simp <;> omega
      have HEE := Lib.hid (HE.out.later HQ.out)
      rcases (show ls.length ≤ i ∨ (i < ls.length ∧ 30 ≤ i) by omega) with h | ⟨h, h'⟩
      · have d1 : decide ((i : Int) < (ls.length : Int)) = false := decide_eq_false (by omega)
        go_wp2_with fail
        refine (awake27_any _ HEE.out).mono ?_
        rintro e w9 ⟨rfl, hb9⟩
        have HB9 := Lib.hid (bl HQ.out HQ.out.size hb9)
        clear hb9
        go_wp2_with fail
        go_ret
        exact ⟨rfl, HB9.out⟩
      · have d1 : decide ((i : Int) < (ls.length : Int)) = true := decide_eq_true (by omega)
        have d2 : decide ((i : Int) < 30) = false := decide_eq_false (by omega)
        go_wp2_with fail
        refine (awake27_any _ HEE.out).mono ?_
        rintro e w9 ⟨rfl, hb9⟩
        have HB9 := Lib.hid (bl HQ.out HQ.out.size hb9)
        clear hb9
        go_wp2_with fail
        go_ret
        exact ⟨rfl, HB9.out⟩
end Go.Proofs.YtokpgopdkimmmaaGreatDoor
