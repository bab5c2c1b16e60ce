/- ops.take, ops.Read: the walks. -/
import Derived.Test.YtokpgopdkimmmaaDoorOpRow
import Derived.Laws.Bits64b
namespace Go.Proofs.YtokpgopdkimmmaaDoor
open Go.RowKit
set_option linter.unusedVariables false
set_option linter.unusedSimpArgs false

def bcell (n : Nat) : Array Value := #[bval n]
theorem bcellk : ∀ n, (bcell n).size = 1 := fun _ => rfl
theorem sizeU8 : ∀ w, (sizeOf 5).run Tryd.prog w = .ok 1 w := fun w => by simp [go_sem]
theorem or_byte (n x : Nat) (hn : n < 72057594037927936) (hx : x < 256) : bits .or .u64 ((n : Int) * 256) (x : Int) = ((n * 256 + x : Nat) : Int) := by
  have h1 : (n : Int) * 256 = ((n * 256 : Nat) : Int) := by omega
  rw [h1, bits_or_u64_nat _ _ (by omega) (by omega)]
  have := Nat.shiftLeft_add_eq_or_of_lt (i := 8) (b := x) (by omega) n
  rw [Nat.shiftLeft_eq] at this
  rw [← this]
set_option maxRecDepth 100000 in
set_option maxHeartbeats 2000000 in
theorem take_any (b : Nat) (l : List Nat) (m : Nat) (hm : m ≤ 8) (hml : m ≤ l.length) (A : Option Addr) (cap : Nat) (hcap : l.length ≤ cap) (hmax : cap ≤ maxLen) (hl : ∀ x ∈ l, x < 256) (w : World) (hb : Blk w b 24 #[.slice A l.length cap]) (hr : RecRow w bcell 1 A l) :
    Calls Tryd.prog 14 #[.pointer (some ⟨b, 0, none⟩), .int .i64 (m : Int)] w fun e w' => e = .returned (.int .u64 (deN (l.take m) : Int)) ∧ ∃ A', w' = w.setCell ⟨b, 0, none⟩ (.slice A' (l.length - m) (cap - m)) ∧ ∀ W, RecRow W bcell 1 A l → RecRow W bcell 1 A' (l.drop m) := by
  obtain ⟨A1, c1, r1, _⟩ := rec_to (P := Tryd.prog) (enc := bcell) (k := 1) Tryd.underlying24 sizeU8 A l.length cap m hml hcap
  obtain ⟨A2, c2, r2, _⟩ := rec_from (P := Tryd.prog) (enc := bcell) (k := 1) Tryd.underlying24 sizeU8 A l.length cap m hml hcap
  have HR1 := Lib.hid (r1 w l rfl hr)
  have HR2 := Lib.hid r2
  have hc := hb.cell 0
  have hf := hb.frozen 0
  unfold maxLen at hmax
  clear r1 r2 hb hr
  go_enter Tryd.func14, Tryd.ntmps14
  go_wp2_with fail
  go_loopw [5, 14] (fun n i wr => wr = w ∧ ∃ k : Nat, k ≤ m ∧ i = .int .i64 (k : Int) ∧ n = .int .u64 (deN ((l.take m).take k) : Int)) (fun _ i _ => m - (intOf i).toNat)
  case atStart => exact ⟨rfl, 0, Nat.zero_le _, rfl, rfl⟩
  case round =>
    obtain ⟨rfl, k, hk, rfl, rfl⟩ := hrel
    by_cases hlt : k < m
    · have hlm : (l.take m).length = m := by rw [List.length_take]; omega
      obtain ⟨x, hx⟩ : ∃ x, (l.take m)[k]? = some x := ⟨_, List.getElem?_eq_getElem (by omega)⟩
      obtain ⟨g, lo, rfl, hg, hcell⟩ := HR1.out.at_ hx
      have hxc := hcell 0 (by decide)
      have hcx : wr.cell? ⟨g, lo + k, none⟩ = some (.int .u8 (x : Int)) := by
        rw [Nat.mul_one, Nat.add_zero] at hxc
        exact hxc
      have hx256 : x < 256 := hl x (List.mem_of_mem_take (List.mem_of_getElem? hx))
      have hn : deN ((l.take m).take k) < 72057594037927936 := by
        have h1 := deN_lt ((l.take m).take k) fun y hy => hl y (List.mem_of_mem_take (List.mem_of_mem_take hy))
        have h2 : ((l.take m).take k).length ≤ 7 := by rw [List.length_take]; omega
        have h3 : (256 : Nat) ^ ((l.take m).take k).length ≤ 256 ^ 7 := Nat.pow_le_pow_right (by decide) h2
        have h4 : (256 : Nat) ^ 7 = 72057594037927936 := by decide
        omega
      have HS := Lib.hid (show deN ((l.take m).take (k + 1)) = deN ((l.take m).take k) * 256 + x by
        rw [List.take_add_one, hx]
        exact deF_snoc 0 x _)
      have hor := or_byte (deN ((l.take m).take k)) x hn hx256
      obtain ⟨n, hnn⟩ : ∃ n, deN ((l.take m).take k) = n := ⟨_, rfl⟩
      rw [hnn] at HS hor hn ⊢
      clear hcell hx hxc hlm hnn HR2
      go_wp2_with fail
      refine ⟨⟨trivial, k + 1, by omega, by go_num, by rw [HS.out]; go_num⟩, by simp [intOf]; omega⟩
    · obtain rfl : k = m := by omega
      have HS := Lib.hid (show (l.take k).take k = l.take k by rw [List.take_of_length_le (by rw [List.length_take]; omega)])
      go_wp2_with fail
      go_ret
      exact ⟨by rw [HS.out]; rfl, A2, rfl, fun W h => HR2.out W l rfl h⟩
/-- What lies in memory while Read goes on. -/
structure RSt (w wr : World) (B0 : Nat) (done : List OpV) (ov : Value) (rest : List Nat) : Prop where
  box : ∃ A cap, Blk wr B0 24 #[.slice A rest.length cap] ∧ rest.length ≤ cap ∧ cap ≤ maxLen ∧ RecRow w bcell 1 A rest
  own : wr.ownsRow w.heap.size 29 6 ov done.length (flatR OpV.cells done)
  below : Below w.heap.size w wr
  lt : ∀ x ∈ rest, x < 256
  ge : w.heap.size ≤ B0
theorem RSt.lt0 {w wr : World} {B0 : Nat} {done : List OpV} {ov : Value} {rest : List Nat} (h : RSt w wr B0 done ov rest) : B0 < wr.heap.size := by obtain ⟨A, cap, hb, _⟩ := h.box; exact hb.lt
theorem RSt.alloc {w wr : World} {B0 : Nat} {done : List OpV} {ov : Value} {rest : List Nat} (h : RSt w wr B0 done ov rest) (o : Obj) : RSt w (wr.alloc o) B0 done ov rest := by
  obtain ⟨A, cap, hb, h1, h2, h3⟩ := h.box
  exact ⟨⟨A, cap, hb.alloc o, h1, h2, h3⟩, h.own.alloc o, h.below.alloc h.below.size o, h.lt, h.ge⟩
/-- A store into a block that is neither the box nor the operations'. -/
theorem RSt.set_ {w wr : World} {B0 : Nat} {done : List OpV} {ov : Value} {rest : List Nat} (h : RSt w wr B0 done ov rest) {b i : Nat} (hb : b ≠ B0) (hB : w.heap.size ≤ b) (ho : ov.ownBlock ≠ some b) (v : Value) : RSt w (wr.setCell ⟨b, i, none⟩ v) B0 done ov rest := by
  obtain ⟨A, cap, hbk, h1, h2, h3⟩ := h.box
  exact ⟨⟨A, cap, hbk.far (fun e => hb e.symm) v, h1, h2, h3⟩, ownsRow_setCell_other h.own (a := ⟨b, i, none⟩) ho v, h.below.setCell (p := ⟨b, i, none⟩) hB v, h.lt, h.ge⟩
theorem take_st (w wr : World) (B0 : Nat) (done : List OpV) (ov : Value) (rest : List Nat) (h : RSt w wr B0 done ov rest) (m : Nat) (hm : m ≤ 8) (hml : m ≤ rest.length) :
    Calls Tryd.prog 14 #[.pointer (some ⟨B0, 0, none⟩), .int .i64 (m : Int)] wr fun e w' => e = .returned (.int .u64 (deN (rest.take m) : Int)) ∧ RSt w w' B0 done ov (rest.drop m) ∧ w'.heap.size = wr.heap.size ∧ ∀ g, g ≠ B0 → w'.heap[g]? = wr.heap[g]? := by
  obtain ⟨A, cap, hb, h1, h2, h3⟩ := h.box
  refine (take_any B0 rest m hm hml A cap h1 h2 h.lt wr hb (h3.later h.below)).mono ?_
  rintro e w' ⟨rfl, A', rfl, hr⟩
  have hbs := hb.set_ 0 (.slice A' (rest.length - m) (cap - m))
  have hne := own_blk_ne h.own hb (by decide)
  refine ⟨rfl, ⟨⟨A', cap - m, ?_, ?_, ?_, hr w h3⟩, ownsRow_setCell_other h.own (a := ⟨B0, 0, none⟩) hne _, h.below.setCell (p := ⟨B0, 0, none⟩) h.ge _, fun x hx => h.lt x (List.mem_of_mem_drop hx), h.ge⟩, by simp [World.setCell], fun g hg => Below.heap_setCell _ _ _ g hg⟩
  · rw [List.length_drop]; exact hbs
  · rw [List.length_drop]; omega
  · omega
/-- One operation more. -/
theorem RSt.push {w wr w5 : World} {B0 : Nat} {done : List OpV} {ov v5 : Value} {rest : List Nat} {q : OpV} (h : RSt w wr B0 done ov rest) (hg : wr.grownBy w5 ov.ownBlock) (ho : w5.ownsRow w.heap.size 29 6 v5 (done.length + 1) (flatR OpV.cells done ++ q.cells.toList)) : RSt w w5 B0 (done ++ [q]) v5 rest := by
  obtain ⟨A, cap, hb, h1, h2, h3⟩ := h.box
  have hne := own_blk_ne h.own hb (by decide)
  exact ⟨⟨A, cap, hb.grown hg (fun e => hne e.symm), h1, h2, h3⟩, by rw [flatR_app, flatR_one, List.length_append]; exact ho, h.below.grown hg h.below.size (fun r hr => (h.own.lt r hr).1), h.lt, h.ge⟩
/-- One of the four numbers, laid anew. -/
def OpV.setN (o : OpV) (j : Nat) (x : Int) : OpV := if j = 0 then { o with a := x } else if j = 1 then { o with b := x } else if j = 2 then { o with c := x } else { o with d := x }
theorem setN_cells (o : OpV) (j : Nat) (hj : j < 4) (x : Int) : o.cells.setIfInBounds (1 + j) (.int .i64 x) = (o.setN j x).cells := by
  rcases (show j = 0 ∨ j = 1 ∨ j = 2 ∨ j = 3 by omega) with rfl | rfl | rfl | rfl <;> rfl
def pnums (b : List Nat) : Nat → OpV
  | 0 => codeOnly (deN (b.take 1))
  | j + 1 => (pnums b j).setN j (s64 (deN ((b.drop (1 + 8 * j)).take 8)))
theorem pnums_all (b : List Nat) : { pnums b 4 with id := deN ((b.drop 33).take 4) } = opOf b := rfl
theorem wrap64_s64 (n : Nat) (h : n < 18446744073709551616) : IntKind.i64.wrap (n : Int) = s64 n := by
  rw [IntKind.wrap_i64]; unfold s64; split <;> omega
set_option maxRecDepth 100000 in
set_option maxHeartbeats 1000000 in
theorem read_bad (l : List Nat) (A : Option Addr) (cap : Nat) (w : World) (hl : l.length ≤ 1000000) (hm : l.length % 37 ≠ 0) :
    Calls Tryd.prog 8 #[.slice A l.length cap] w fun e w' => e = .returned (.tuple #[.slice none 0 0, .int .i64 270]) ∧ Below w.heap.size w w' := by
  have ht : ((l.length : Int).tmod 37 == 0) = false := by
    rw [Int.tmod_eq_emod_of_nonneg (by omega)]
    simp; omega
  have ht2 : ((l.length : Int) % 37 == 0) = false := by simp; omega
  have hd : ¬ (l.length : Int) % 37 = 0 := by omega
  go_enter Tryd.func8, Tryd.ntmps8
  go_wp2_with fail
  go_ret2
  exact ⟨rfl, (Below.refl _ w).alloc (Nat.le_refl _) _⟩
theorem infoOp : (Tryd.prog.info? 29).map (fun i => (i.zero, i.size, i.bytes)) = some (some (codeOnly 0).val, 6, 48) := by kernel_rfl
set_option maxRecDepth 100000 in
set_option maxHeartbeats 4000000 in
theorem read_any (l : List Nat) (n : Nat) (A : Option Addr) (cap : Nat) (w : World) (hn : n ≤ 10000) (hln : l.length = 37 * n) (hcap : l.length ≤ cap) (hmax : cap ≤ maxLen) (hl : ∀ x ∈ l, x < 256) (hr : RecRow w bcell 1 A l) :
    Calls Tryd.prog 8 #[.slice A l.length cap] w fun e w' => ∃ v, e = .returned (.tuple #[v, .int .i64 0]) ∧ w'.ownsRow w.heap.size 29 6 v n (flatR OpV.cells (readN n l)) ∧ Below w.heap.size w w' := by
  obtain ⟨i0, hi, hzz, hz1, hz2⟩ := info_parts infoOp
  have hd : (l.length : Int) % 37 = 0 := by omega
  have hle : l.length ≤ 370000 := by omega
  have HS0 := Lib.hid (show RSt w (w.alloc (.cells #[.slice A l.length cap] 24)) w.heap.size [] (.slice none 0 0) l from
    ⟨⟨A, cap, Blk.new w _ _, hcap, hmax, hr⟩, World.ownsRow_nil _ _ _ _, (Below.refl _ w).alloc (Nat.le_refl _) _, hl, Nat.le_refl _⟩)
  have HLN := Lib.hid hln
  clear hln hr hl
  go_enter Tryd.func8, Tryd.ntmps8
  go_wp2_with fail
  clear hd
  go_loopg [4] n (fun gh ov wr => ∃ (g : Nat) (done : List OpV) (rest : List Nat) (oa : Option Addr) (oc : Nat), ov = .slice oa done.length oc ∧ Hid (gh = g) ∧ g ≤ n ∧ done.length + g = n ∧ rest.length = 37 * g ∧ Hid (RSt w wr w.heap.size done (.slice oa done.length oc) rest) ∧ Hid (done ++ readN g rest = readN n l))
  case atStart => exact ⟨n, [], l, none, 0, rfl, Lib.hid rfl, Nat.le_refl _, by simp, HLN.out, HS0, Lib.hid rfl⟩
  case round =>
    clear HS0 HLN
    obtain ⟨g, done, rest, oa, oc, rfl, HGH, hg, hdg, hrl, HS, HD⟩ := hrel
    obtain ⟨wo, rfl⟩ : ∃ wo : World, wo = wr := ⟨_, rfl⟩
    obtain ⟨A1, cap1, hbx, hc1, hm1, _⟩ := HS.out.box
    have hcb : wo.cell? ⟨w.heap.size, 0, none⟩ = some (.slice A1 rest.length cap1) := hbx.cell 0
    clear hbx
    rcases Nat.eq_zero_or_pos g with h0 | h0
    · subst h0
      have hz : rest.length = 0 := by omega
      have hzd : decide (0 < rest.length) = false := decide_eq_false (by omega)
      have hzd2 : decide ((0 : Int) < (rest.length : Int)) = false := decide_eq_false (by omega)
      have HDN := Lib.hid (show done = readN n l by have h := HD.out; rw [readN, List.append_nil] at h; exact h)
      have HN := Lib.hid (show done.length = n by omega)
      have HO := Lib.hid HS.out.own
      have HB := Lib.hid HS.out.below
      clear hz hrl
      go_wp2_with fail
      go_ret2
      exact ⟨_, rfl, by rw [← HDN.out, ← HN.out]; exact HO.out, HB.out⟩
    · have hpos : 0 < rest.length := by omega
      have h37 : 37 ≤ rest.length := by omega
      obtain ⟨k, rfl⟩ : ∃ k, g = k + 1 := ⟨g - 1, by omega⟩
      have HRL := Lib.hid hrl
      have HDG := Lib.hid hdg
      clear hrl hdg hm1 hc1
      go_wp2_with fail
      refine (take_st w wo w.heap.size done _ rest HS.out 1 (by decide) (by omega)).mono ?_
      rintro e w1 ⟨rfl, S1, hs1, hk1⟩
      have HK := Lib.hid (show deN (rest.take 1) < 256 from by have := deN_take_lt rest 1 HS.out.lt; simpa using this)
      have hk256 := HK.out
      have S1' := Lib.hid S1
      have hlt1 := S1.lt0
      clear hs1 hk1 S1 HS hcb
      go_wp2_with fail
      have HO5 := Lib.hid (show OpB ((w1.alloc (.cells (pnums rest 0).cells 29)).alloc (.cells #[.pointer (some ⟨w1.heap.size, 1, none⟩), .pointer (some ⟨w1.heap.size, 2, none⟩), .pointer (some ⟨w1.heap.size, 3, none⟩), .pointer (some ⟨w1.heap.size, 4, none⟩)] 50)) w1.heap.size (pnums rest 0) from Blk.alloc (Blk.new w1 _ _) _)
      have HP5 := Lib.hid (show Blk ((w1.alloc (.cells (pnums rest 0).cells 29)).alloc (.cells #[.pointer (some ⟨w1.heap.size, 1, none⟩), .pointer (some ⟨w1.heap.size, 2, none⟩), .pointer (some ⟨w1.heap.size, 3, none⟩), .pointer (some ⟨w1.heap.size, 4, none⟩)] 50)) (w1.heap.size + 1) 50 #[.pointer (some ⟨w1.heap.size, 1, none⟩), .pointer (some ⟨w1.heap.size, 2, none⟩), .pointer (some ⟨w1.heap.size, 3, none⟩), .pointer (some ⟨w1.heap.size, 4, none⟩)] by
        have h := Blk.new (w1.alloc (.cells (pnums rest 0).cells 29)) 50 #[.pointer (some ⟨w1.heap.size, 1, none⟩), .pointer (some ⟨w1.heap.size, 2, none⟩), .pointer (some ⟨w1.heap.size, 3, none⟩), .pointer (some ⟨w1.heap.size, 4, none⟩)]
        rw [World.size_alloc] at h
        exact h)
      have HS2 := Lib.hid ((S1'.out.alloc (.cells (pnums rest 0).cells 29)).alloc (.cells #[.pointer (some ⟨w1.heap.size, 1, none⟩), .pointer (some ⟨w1.heap.size, 2, none⟩), .pointer (some ⟨w1.heap.size, 3, none⟩), .pointer (some ⟨w1.heap.size, 4, none⟩)] 50))
      have HOV := Lib.hid (show (Value.slice oa done.length oc).ownBlock ≠ some w1.heap.size from fun h => by have := (S1'.out.own.lt _ h).2; omega)
      show Code.wp _ _ _ _ ((w1.alloc (.cells (pnums rest 0).cells 29)).alloc (.cells #[.pointer (some ⟨w1.heap.size, 1, none⟩), .pointer (some ⟨w1.heap.size, 2, none⟩), .pointer (some ⟨w1.heap.size, 3, none⟩), .pointer (some ⟨w1.heap.size, 4, none⟩)] 50))
      generalize (w1.alloc (.cells (pnums rest 0).cells 29)).alloc (.cells #[.pointer (some ⟨w1.heap.size, 1, none⟩), .pointer (some ⟨w1.heap.size, 2, none⟩), .pointer (some ⟨w1.heap.size, 3, none⟩), .pointer (some ⟨w1.heap.size, 4, none⟩)] 50) = W2 at HO5 HP5 HS2 ⊢
      obtain ⟨bo, hbo⟩ : ∃ b, w1.heap.size = b := ⟨_, rfl⟩
      rw [hbo] at HO5 HP5 HOV hlt1 ⊢
      have HGE := Lib.hid (show w.heap.size < bo from hlt1)
      clear hbo S1' hlt1 w1
      go_loopw [24] (fun jv wi => ∃ j : Nat, j ≤ 4 ∧ jv = .int .i64 (j : Int) ∧ Hid (RSt w wi w.heap.size done (.slice oa done.length oc) (rest.drop (1 + 8 * j))) ∧ Hid (OpB wi bo (pnums rest j)) ∧ Hid (Blk wi (bo + 1) 50 #[.pointer (some ⟨bo, 1, none⟩), .pointer (some ⟨bo, 2, none⟩), .pointer (some ⟨bo, 3, none⟩), .pointer (some ⟨bo, 4, none⟩)])) (fun jv _ => 4 - (intOf jv).toNat)
      case atStart => exact ⟨0, by decide, rfl, HS2, HO5, HP5⟩
      case round =>
        clear HS2 HO5 HP5
        obtain ⟨j, hj, rfl, HS, HO, HP⟩ := hrel
        by_cases hj4 : j < 4
        · have hlp := HP.out.cell j
          have hcp : wr.cell? ⟨bo + 1, j, none⟩ = some (.pointer (some ⟨bo, 1 + j, none⟩)) := by
            rw [hlp]
            rcases (show j = 0 ∨ j = 1 ∨ j = 2 ∨ j = 3 by omega) with rfl | rfl | rfl | rfl <;> rfl
          have hdl : 8 ≤ (rest.drop (1 + 8 * j)).length := by rw [List.length_drop]; omega
          clear hlp
          go_wp2_with fail
          refine (take_st w wr w.heap.size done _ (rest.drop (1 + 8 * j)) HS.out 8 (by decide) hdl).mono ?_
          rintro e w3 ⟨rfl, S3, hs3, hk3⟩
          have HO3 := Lib.hid (show OpB w3 bo (pnums rest j) from (hk3 bo (by have := HGE.out; omega)).trans HO.out)
          have HP3 := Lib.hid ((hk3 (bo + 1) (by have := HGE.out; omega)).trans HP.out)
          have hxx : deN ((rest.drop (1 + 8 * j)).take 8) < 18446744073709551616 := by
            have := deN_take_lt (rest.drop (1 + 8 * j)) 8 HS.out.lt
            have p8 : (256 : Nat) ^ 8 = 18446744073709551616 := by decide
            omega
          have hcv := wrap64_s64 _ hxx
          have h5l := Blk.lt HO3.out
          have h5f : w3.frozen? ⟨bo, 1 + j, none⟩ = false := Blk.frozen HO3.out _
          obtain ⟨c5, h5c⟩ : ∃ u, w3.cell? ⟨bo, 1 + j, none⟩ = some u := by
            rw [Blk.cell HO3.out]
            rcases (show j = 0 ∨ j = 1 ∨ j = 2 ∨ j = 3 by omega) with rfl | rfl | rfl | rfl <;> exact ⟨_, rfl⟩
          have HSB := Lib.hid (show RSt w (w3.setCell ⟨bo, 1 + j, none⟩ (.int .i64 (s64 (deN ((rest.drop (1 + 8 * j)).take 8))))) w.heap.size done (.slice oa done.length oc) (rest.drop (1 + 8 * (j + 1))) by
            have h := S3.set_ (b := bo) (i := 1 + j) (by have := HGE.out; omega) (by have := HGE.out; omega) HOV.out (.int .i64 (s64 (deN ((rest.drop (1 + 8 * j)).take 8))))
            rw [List.drop_drop] at h
            exact h)
          have HOB := Lib.hid (show OpB (w3.setCell ⟨bo, 1 + j, none⟩ (.int .i64 (s64 (deN ((rest.drop (1 + 8 * j)).take 8))))) bo (pnums rest (j + 1)) by
            have h := Blk.set_ HO3.out (1 + j) (.int .i64 (s64 (deN ((rest.drop (1 + 8 * j)).take 8))))
            rw [setN_cells _ j hj4] at h
            exact h)
          have HPB := Lib.hid (Blk.far HP3.out (p := ⟨bo, 1 + j, none⟩) (show bo + 1 ≠ bo by omega) (.int .i64 (s64 (deN ((rest.drop (1 + 8 * j)).take 8)))))
          generalize deN ((rest.drop (1 + 8 * j)).take 8) = N at hcv hxx HSB HOB HPB ⊢
          clear hs3 hk3 S3 HO3 HP3 HS HO HP hcp
          go_wp2_with fail
          go_roundw
          case rel => exact ⟨j + 1, by omega, by go_num, HSB, HOB, HPB⟩
          case measure => simp [intOf] <;> omega
        · obtain rfl : j = 4 := by omega
          have hdl : 4 ≤ (rest.drop (1 + 8 * 4)).length := by rw [List.length_drop]; omega
          go_wp2_with fail
          refine (take_st w wr w.heap.size done _ (rest.drop (1 + 8 * 4)) HS.out 4 (by decide) hdl).mono ?_
          rintro e w3 ⟨rfl, S3, hs3, hk3⟩
          have HO3 := Lib.hid (show OpB w3 bo (pnums rest 4) from (hk3 bo (by have := HGE.out; omega)).trans HO.out)
          have hxx : deN ((rest.drop (1 + 8 * 4)).take 4) < 4294967296 := by
            have := deN_take_lt (rest.drop (1 + 8 * 4)) 4 HS.out.lt
            simpa using this
          have h5l := Blk.lt HO3.out
          have h5f : w3.frozen? ⟨bo, 5, none⟩ = false := Blk.frozen HO3.out _
          have h5c : w3.cell? ⟨bo, 5, none⟩ = some (.int .u32 0) := Blk.cell HO3.out 5
          have HSB := Lib.hid (show RSt w (w3.setCell ⟨bo, 5, none⟩ (.int .u32 (deN ((rest.drop (1 + 8 * 4)).take 4) : Int))) w.heap.size done (.slice oa done.length oc) (rest.drop 37) by
            have h := S3.set_ (b := bo) (i := 5) (by have := HGE.out; omega) (by have := HGE.out; omega) HOV.out (.int .u32 (deN ((rest.drop (1 + 8 * 4)).take 4) : Int))
            rw [List.drop_drop] at h
            exact h)
          have hob : OpB (w3.setCell ⟨bo, 5, none⟩ (.int .u32 (deN ((rest.drop (1 + 8 * 4)).take 4) : Int))) bo (opOf rest) := Blk.set_ HO3.out 5 (.int .u32 (deN ((rest.drop (1 + 8 * 4)).take 4) : Int))
          obtain ⟨q, hq⟩ : ∃ q, opOf rest = q := ⟨_, rfl⟩
          rw [hq] at hob
          have HQ := Lib.hid hq
          have d0 : (w3.setCell ⟨bo, 5, none⟩ (.int .u32 (deN ((rest.drop (1 + 8 * 4)).take 4) : Int))).cell? ⟨bo, 0, none⟩ = some (.int .u8 (q.k : Int)) := Blk.cell hob 0
          have d1 : (w3.setCell ⟨bo, 5, none⟩ (.int .u32 (deN ((rest.drop (1 + 8 * 4)).take 4) : Int))).cell? ⟨bo, 1, none⟩ = some (.int .i64 q.a) := Blk.cell hob 1
          have d2 : (w3.setCell ⟨bo, 5, none⟩ (.int .u32 (deN ((rest.drop (1 + 8 * 4)).take 4) : Int))).cell? ⟨bo, 2, none⟩ = some (.int .i64 q.b) := Blk.cell hob 2
          have d3 : (w3.setCell ⟨bo, 5, none⟩ (.int .u32 (deN ((rest.drop (1 + 8 * 4)).take 4) : Int))).cell? ⟨bo, 3, none⟩ = some (.int .i64 q.c) := Blk.cell hob 3
          have d4 : (w3.setCell ⟨bo, 5, none⟩ (.int .u32 (deN ((rest.drop (1 + 8 * 4)).take 4) : Int))).cell? ⟨bo, 4, none⟩ = some (.int .i64 q.d) := Blk.cell hob 4
          have d5 : (w3.setCell ⟨bo, 5, none⟩ (.int .u32 (deN ((rest.drop (1 + 8 * 4)).take 4) : Int))).cell? ⟨bo, 5, none⟩ = some (.int .u32 (q.id : Int)) := Blk.cell hob 5
          clear hq hob
          generalize deN ((rest.drop (1 + 8 * 4)).take 4) = N at *
          clear hs3 hk3 S3 HO3 HS HO HP
          go_upto_region 12 with (fail)
          have HRN := Lib.hid (show readN (k + 1) rest = q :: readN k (rest.drop 37) by rw [readN, HQ.out])
          generalize w3.setCell ⟨bo, 5, none⟩ (.int .u32 (N : Int)) = w4 at HSB d0 d1 d2 d3 d4 d5 ⊢
          have hdone : done.length ≤ 10000 := by have := HDG.out; omega
          clear h5l h5f h5c hxx HQ
          go_wp2_with (at_builtin; refine wpList_append_any _ rfl (.tmp 36) (.tmp 38) 22 rfl w.heap.size 29 i0 (codeOnly 0).val 6 48 Tryd.underlying22 hi hzz hz1 hz2 rfl (by decide) _ _ _ rfl (HSB.out.own.alloc _) (w4.heap.size + 1) (some ⟨w4.heap.size, 0, none⟩) 1 1 q.cells.toList rfl (reads_cells w4 q.cells _ 1 6 rfl) (op_ones q) (by unfold maxLen; omega) (by omega) (by have := HSB.out.below.size; simp; omega) ?_)
          intro v5 w5 ho5 hg5 ha5
          obtain ⟨a5, k5, rfl⟩ := own_shape ho5
          have HS5 := Lib.hid (HSB.out.push (grown_tr (only_alloc (World.grownBy.refl w4 _) _) hg5) ho5)
          clear ho5 hg5 ha5 HSB d0 d1 d2 d3 d4 d5
          go_wp2_with fail
          go_roundg k
          case measure => rw [HGH.out]; omega
          case rel => exact ⟨k, done ++ [q], rest.drop 37, a5, k5, by rw [List.length_append, List.length_singleton], Lib.hid rfl, by omega, by have := HDG.out; rw [List.length_append, List.length_singleton]; omega, by have := HRL.out; rw [List.length_drop]; omega, Lib.hid (by rw [List.length_append, List.length_singleton]; exact HS5.out), Lib.hid (by rw [← HD.out, HRN.out, List.append_assoc]; rfl)⟩
end Go.Proofs.YtokpgopdkimmmaaDoor
