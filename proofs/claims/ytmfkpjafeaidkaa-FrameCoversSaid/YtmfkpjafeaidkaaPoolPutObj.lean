/- The contract of (*pool.Pool).Put. -/
import Derived.Test.YtmfkpjafeaidkaaPoolObj
import Derived.Test.YtmfkpjafeaidkaaRefRight
import Derived.Deep.DeepCutAuto
import Derived.Test.YtmfkpjafeaidkaaRegionU
namespace Go.Proofs.Ytmfkpjafeaidkaa
open Go.RowKit
set_option linter.unusedVariables false
set_option linter.unusedSimpArgs false

theorem may_any' (k L R f t a it : Int) (ks : List Bool) (ao : Option Addr) (cap m : Nat) (w : World) (hm : ks.length = m) (hrow : Row w ao (ks.map .bool)) (hlen : m ≤ maxLen) :
    Calls Try.prog 36 #[nodeV k L R f t a it, .slice ao m cap] w fun e w' => e = .returned (.bool (mayB k L R ks)) ∧ Below w.heap.size w w' := by
  subst hm; exact may_any k L R f t a it ks ao cap w hrow hlen
theorem put_any' (k L R f t a it : Int) (ks : List Bool) (ao : Option Addr) (cap base m : Nat) (w : World) (hm : ks.length = m) (hown : w.ownsRow base 4 1 (.slice ao m cap) m (ks.map .bool))
    (hk : ∀ x ∈ kidsL L R, 0 ≤ x ∧ x < m) (hlen : m + 1 ≤ 70368744177664) (hbase : base ≤ w.heap.size) :
    Calls Try.prog 37 #[nodeV k L R f t a it, .slice ao m cap] w (PutPost base (Value.slice ao m cap).ownBlock (m + 1) ((markL ks (kidsL L R) ++ [false]).map .bool) w) := by
  subst hm; exact put_any k L R f t a it ks ao cap base w hown hk hlen hbase

def putErr (ns : List Nd) (most : Int) (n : Nd) : Int := if mayB n.k n.l n.r (ksFrom [] ns) = true then (if (ns.length : Int) < most then 0 else 5) else 50
def putAt (ns : List Nd) (most : Int) (n : Nd) : Int := if putErr ns most n = 0 then ns.length else 0
def putNs (ns : List Nd) (most : Int) (n : Nd) : List Nd := if putErr ns most n = 0 then ns ++ [n] else ns
def PutObj (base pb : Nat) (most : Int) (ns : List Nd) (n : Nd) (fp : List Nat) (w : World) (e : Ending) (w' : World) : Prop :=
  ∃ fp', e = .returned (.tuple #[.int .i64 (putAt ns most n), .int .i64 (putErr ns most n)]) ∧ PoolRep base pb most (putNs ns most n) fp' w' ∧ ChgOnly fp w w' ∧ ∀ b ∈ fp', b ∈ fp ∨ w.heap.size ≤ b

/-- What the statement that puts leaves. -/
def PutMid (base pb : Nat) (most : Int) (ns : List Nd) (n : Nd) (fp : List Nat) (w w' : World) : Prop :=
  ∃ na ka nc kc, PoolIn base pb most (ns ++ [n]) na ka nc kc w' ∧ ChgOnly fp w w' ∧ ∀ b ∈ poolFp pb na ka, b ∈ fp ∨ w.heap.size ≤ b

theorem flatN_snoc (ns : List Nd) (n : Nd) : flatN (ns ++ [n]) = flatN ns ++ n.cells.toList := by unfold flatN; rw [List.flatMap_append]; simp
theorem put_end {base pb nc kc k1 k2 : Nat} {most : Int} {ns : List Nd} {na ka a1 a2 : Option Addr} {n : Nd} {w V3 w1 w2 : World} {o : Obj} (H : PoolIn base pb most ns na ka nc kc w) (HB : Below w.heap.size w V3)
    (hg1 : (V3.alloc o).drew.grownBy w1 (Value.slice na ns.length nc).ownBlock) (ho1 : w1.ownsRow base 49 7 (.slice a1 (ns.length + 1) k1) (ns.length + 1) (flatN ns ++ n.cells.toList))
    (hat : (Value.slice a1 (ns.length + 1) k1).ownBlock = (Value.slice na ns.length nc).ownBlock ∨ (Value.slice a1 (ns.length + 1) k1).ownBlock = some (V3.alloc o).drew.heap.size)
    (hg2 : w1.grownBy w2 (Value.slice ka ns.length kc).ownBlock) (ho2 : w2.ownsRow base 4 1 (.slice a2 (ns.length + 1) k2) (ns.length + 1) ((markL (ksFrom [] ns) (kidsL n.l n.r) ++ [false]).map .bool))
    (hl2 : (Value.slice a2 (ns.length + 1) k2).ownBlock = (Value.slice ka ns.length kc).ownBlock ∨ ∀ k, (Value.slice a2 (ns.length + 1) k2).ownBlock = some k → w1.heap.size ≤ k)
    (hm : mayB n.k n.l n.r (ksFrom [] ns) = true) (hr : (ns.length : Int) < most) :
    PutMid base pb most ns n (poolFp pb na ka) w ((w2.setCell ⟨pb, 1, none⟩ (.slice a1 (ns.length + 1) k1)).setCell ⟨pb, 2, none⟩ (.slice a2 (ns.length + 1) k2)) := by
  have hp := lt_of_block H.blk
  have hs1 := hg1.size
  have hs2 := hg2.size
  have hs3 := HB.size
  have es : (V3.alloc o).drew.heap.size = V3.heap.size + 1 := by simp
  rw [es] at hs1 hat
  have nk : ∀ g, (Value.slice ka ns.length kc).ownBlock = some g → g < w.heap.size ∧ g ≠ pb := fun g hg => ⟨(H.kid.lt g hg).2, fun e => own_of_other H.kid H.blk (by decide) (by rw [hg, e])⟩
  have nn : ∀ g, (Value.slice na ns.length nc).ownBlock = some g → g < w.heap.size ∧ g ≠ pb := fun g hg => ⟨(H.nodes.lt g hg).2, fun e => own_of_other H.nodes H.blk (by decide) (by rw [hg, e])⟩
  have n1 : ∀ g, (Value.slice a1 (ns.length + 1) k1).ownBlock = some g → g ≠ pb ∧ some g ≠ (Value.slice ka ns.length kc).ownBlock := by
    intro g hg
    rcases hat with h | h
    · rw [hg] at h
      exact ⟨(nn g h.symm).2, fun e => own_apart H.kid H.nodes (by decide) g e.symm h.symm⟩
    · rw [hg] at h
      simp only [Option.some.injEq] at h
      exact ⟨by omega, fun e => by have := (nk g e.symm).1; omega⟩
  have n2 : ∀ g, (Value.slice a2 (ns.length + 1) k2).ownBlock = some g → g ≠ pb := by
    intro g hg
    rcases hl2 with h | h
    · rw [hg] at h; exact (nk g h.symm).2
    · have := h g hg; omega
  have hblk : w2.heap[pb]? = some (.cells #[.int .i64 most, .slice na ns.length nc, .slice ka ns.length kc, .bool true] 102 (0, 0)) := by
    rw [hg2.block pb (by omega) (fun e => (nk pb e.symm).2 rfl), hg1.block pb (by rw [es]; omega) (fun e => (nn pb e.symm).2 rfl)]
    exact (Below.heap_alloc V3 o pb (by omega)).trans ((HB.block pb hp).trans H.blk)
  have hlen : (ns ++ [n]).length = ns.length + 1 := by simp
  refine ⟨a1, a2, k1, k2, ⟨?_, H.ge, ?_, ?_, fun h => by simp at h, H.pos, H.max, by rw [hlen]; omega, by rw [rightL_snoc, H.right, hm]; rfl⟩, ?_, ?_⟩
  · have h := ((show Blk w2 pb 102 _ from hblk).set_ 1 (.slice a1 (ns.length + 1) k1)).set_ 2 (.slice a2 (ns.length + 1) k2)
    rw [hlen]
    exact h
  · rw [hlen, flatN_snoc]
    refine ownsRow_setCell_other (ownsRow_setCell_other (ho1.kept hg2 ?_) (a := ⟨pb, 1, none⟩) (fun e => (n1 pb e).1 rfl) _) (a := ⟨pb, 2, none⟩) (fun e => (n1 pb e).1 rfl) _
    cases e : (Value.slice a1 (ns.length + 1) k1).ownBlock with
    | none => exact .inl rfl
    | some g => exact .inr (n1 g e).2
  · rw [hlen, ksFrom_snoc]
    exact ownsRow_setCell_other (ownsRow_setCell_other ho2 (a := ⟨pb, 1, none⟩) (fun e => n2 pb e rfl) _) (a := ⟨pb, 2, none⟩) (fun e => n2 pb e rfl) _
  · have c0 : ChgOnly (poolFp pb na ka) w (V3.alloc o).drew := (ChgOnly.below HB _).step (fp := []) ⟨rfl, rfl, rfl, by simp, fun i hi _ => Below.heap_alloc V3 o i hi⟩ (by simp)
    have c1 := c0.step (.grown hg1) (fun x hx => .inl (by rw [Option.mem_toList] at hx; unfold poolFp; exact List.mem_cons_of_mem _ (List.mem_append_left _ (mem_addrB.2 hx))))
    have c2 := c1.step (.grown hg2) (fun x hx => .inl (by rw [Option.mem_toList] at hx; unfold poolFp; exact List.mem_cons_of_mem _ (List.mem_append_right _ (mem_addrB.2 hx))))
    have sc : ∀ (W : World) (k : Nat) (v : Value), ChgOnly [pb] W (W.setCell ⟨pb, k, none⟩ v) := fun W k v => ⟨rfl, rfl, rfl, by simp, fun i _ hn => Below.heap_setCell _ _ _ _ (fun e => hn (by rw [e]; simp))⟩
    exact (c2.step (sc _ _ _) (fun x hx => .inl (by simp at hx; subst hx; simp [poolFp]))).step (sc _ _ _) (fun x hx => .inl (by simp at hx; subst hx; simp [poolFp]))
  · intro b hb
    unfold poolFp at hb
    rcases List.mem_cons.1 hb with rfl | hb
    · exact .inl (by simp [poolFp])
    · rcases List.mem_append.1 hb with hb | hb
      · have hb' := mem_addrB (n := ns.length + 1) (c := k1).1 hb
        rcases hat with h | h
        · rw [h] at hb'; exact .inl (by unfold poolFp; exact List.mem_cons_of_mem _ (List.mem_append_left _ (mem_addrB.2 hb')))
        · rw [h] at hb'; simp only [Option.some.injEq] at hb'; exact .inr (by omega)
      · have hb' := mem_addrB (n := ns.length + 1) (c := k2).1 hb
        rcases hl2 with h | h
        · rw [h] at hb'; exact .inl (by unfold poolFp; exact List.mem_cons_of_mem _ (List.mem_append_right _ (mem_addrB.2 hb')))
        · have := h b hb'; exact .inr (by omega)
theorem reads_cells (w : World) (cs : Array Value) (e : TypeId) (m size : Nat) (h : cs.size = m * size) : Reads (w.alloc (.cells cs e)) (w.heap.size + 1) size (some ⟨w.heap.size, 0, none⟩) m cs.toList :=
  ⟨by simpa using h, fun _ => ⟨_, rfl, by simp, fun j u hu => by
    have e2 : (⟨w.heap.size, 0, none⟩ : Addr).add j = ⟨w.heap.size, j, none⟩ := by
      unfold Addr.add
      split
      · rename_i hj; rw [hj]
      · rw [Nat.zero_add]
    rw [e2, cells_at w cs e j]; simpa using hu⟩⟩
theorem reads_block {w w' : World} {B size m b : Nat} {xs : List Value} (h : Reads w B size (some ⟨b, 0, none⟩) m xs) (hb : w'.heap[b]? = w.heap[b]?) : Reads w' B size (some ⟨b, 0, none⟩) m xs :=
  ⟨h.1, fun hm => by
    obtain ⟨ad, e, hlt, hc⟩ := h.2 hm
    cases e
    exact ⟨_, rfl, hlt, fun j u hu => (World.cell?_of_block (by rw [block_of_add]; exact hb)).trans (hc j u hu)⟩⟩
set_option maxRecDepth 100000 in
set_option maxHeartbeats 4000000 in
theorem putObj_any {base pb nc kc : Nat} {most : Int} {ns : List Nd} {na ka : Option Addr} (n : Nd) (w : World) (h : PoolIn base pb most ns na ka nc kc w) :
    Calls Try.prog 50 #[.pointer (some ⟨pb, 0, none⟩), n.val] w (PutObj base pb most ns n (poolFp pb na ka) w) := by
  have hl := h.len
  have hkl : (ksFrom [] ns).length = ns.length := by rw [ksFrom_len]; simp
  have HKL := Lib.hid hkl
  clear hkl
  have hlt := lt_of_block h.blk
  have H := Lib.hid h
  clear h
  go_enter Try.func50, Try.ntmps50
  go_upto_region 1 with (fail)
  refine from_box1 (fun V hV => ?_)
  obtain ⟨hB, zlt, zge, cn, fn⟩ := hV
  have HV := Lib.hid (H.out.later hB)
  obtain ⟨c0, c1, c2, c3, _⟩ := (H.out.later hB).cells
  have m0 : V.cell? ⟨w.heap.size, 0, none⟩ = some (.int .u8 n.k) := cn 0
  have m1 : V.cell? ⟨w.heap.size, 1, none⟩ = some (.int .i64 n.l) := cn 1
  have m2 : V.cell? ⟨w.heap.size, 2, none⟩ = some (.int .i64 n.r) := cn 2
  have m3 : V.cell? ⟨w.heap.size, 3, none⟩ = some (.int .i64 n.f) := cn 3
  have m4 : V.cell? ⟨w.heap.size, 4, none⟩ = some (.int .i64 n.t) := cn 4
  have m5 : V.cell? ⟨w.heap.size, 5, none⟩ = some (.int .i64 n.a) := cn 5
  have m6 : V.cell? ⟨w.heap.size, 6, none⟩ = some (.int .i64 n.i) := cn 6
  have HM := Lib.hid m0
  have HBV := Lib.hid hB
  have hpv : pb < V.heap.size := Nat.lt_of_lt_of_le hlt hB.size
  clear hB cn fn
  go_wp2_with fail
  refine since_wp (fun s => ?_)
  refine wp_region_since (by kernel_rfl) (by kernel_rfl) ?_
  repeat (go_big_quiet_step ((first | (go_at_call 36; exact since_quiet2 (may_any' _ _ _ _ _ _ _ (ksFrom [] ns) ka kc ns.length _ HKL.out ((row_of_owned HV.out.kid).later (Since.h _)) (by unfold maxLen; omega))))))
  refine wpQuiet_nil ?_
  rintro _ ⟨s2, rfl⟩
  clear s
  cases hm : mayB n.k n.l n.r (ksFrom [] ns)
  · have HE := Lib.hid (show putErr ns most n = 50 by unfold putErr; rw [if_neg (by rw [hm]; simp)])
    clear hm
    go_wp2
    go_ret2
    have hb := HBV.out.trans (s2.h.mono HBV.out.size)
    refine ⟨_, by unfold putAt; rw [HE.out]; rfl, ?_, .below hb _, fun b hb => .inl hb⟩
    unfold putNs
    rw [HE.out]
    exact ⟨na, ka, nc, kc, rfl, H.out.later hb⟩
  · by_cases hroom : (ns.length : Int) < most
    · have HE := Lib.hid (show putErr ns most n = 0 by unfold putErr; rw [if_pos hm, if_pos hroom])
      have HMAY := Lib.hid hm
      clear hm
      go_wp2_with fail
      refine wp_region_since (by kernel_rfl) (by kernel_rfl) ?_
      repeat (go_big_quiet_step (fail))
      refine wpQuiet_nil ?_
      rintro _ ⟨s3, rfl⟩
      go_wp2_with fail
      have hB3 := s3.h
      generalize s3.w = V3 at hB3 ⊢
      clear s2
      have HN3 := Lib.hid (HV.out.later hB3)
      obtain ⟨d0, d1, d2, d3, dz⟩ := (HV.out.later hB3).cells
      have x0 : V3.cell? ⟨w.heap.size, 0, none⟩ = some (.int .u8 n.k) := (hB3.cell (p := ⟨w.heap.size, 0, none⟩) zlt).trans m0
      have x1 : V3.cell? ⟨w.heap.size, 1, none⟩ = some (.int .i64 n.l) := (hB3.cell (p := ⟨w.heap.size, 1, none⟩) zlt).trans m1
      have x2 : V3.cell? ⟨w.heap.size, 2, none⟩ = some (.int .i64 n.r) := (hB3.cell (p := ⟨w.heap.size, 2, none⟩) zlt).trans m2
      have x3 : V3.cell? ⟨w.heap.size, 3, none⟩ = some (.int .i64 n.f) := (hB3.cell (p := ⟨w.heap.size, 3, none⟩) zlt).trans m3
      have x4 : V3.cell? ⟨w.heap.size, 4, none⟩ = some (.int .i64 n.t) := (hB3.cell (p := ⟨w.heap.size, 4, none⟩) zlt).trans m4
      have x5 : V3.cell? ⟨w.heap.size, 5, none⟩ = some (.int .i64 n.a) := (hB3.cell (p := ⟨w.heap.size, 5, none⟩) zlt).trans m5
      have x6 : V3.cell? ⟨w.heap.size, 6, none⟩ = some (.int .i64 n.i) := (hB3.cell (p := ⟨w.heap.size, 6, none⟩) zlt).trans m6
      have z3 : w.heap.size < V3.heap.size := Nat.lt_of_lt_of_le zlt hB3.size
      have p3 : pb < V3.heap.size := Nat.lt_of_lt_of_le hpv hB3.size
      have hbp : base ≤ pb := H.out.ge
      have HB3 := Lib.hid (HBV.out.trans (hB3.mono HBV.out.size))
      have HPK := Lib.hid (show some pb ≠ (Value.slice ka ns.length kc).ownBlock from fun e => own_of_other H.out.kid H.out.blk (by decide) e.symm)
      have HPN := Lib.hid (show some pb ≠ (Value.slice na ns.length nc).ownBlock from fun e => own_of_other H.out.nodes H.out.blk (by decide) e.symm)
      have HBK := Lib.hid (show some w.heap.size ≠ (Value.slice ka ns.length kc).ownBlock from fun e => by have := (H.out.kid.lt _ e.symm).2; omega)
      have HBN := Lib.hid (show some w.heap.size ≠ (Value.slice na ns.length nc).ownBlock from fun e => by have := (H.out.nodes.lt _ e.symm).2; omega)
      have HNE := Lib.hid (show (Value.slice ka ns.length kc).ownBlock = none ∨ (Value.slice ka ns.length kc).ownBlock ≠ (Value.slice na ns.length nc).ownBlock by
        cases e : (Value.slice ka ns.length kc).ownBlock with
        | none => exact .inl rfl
        | some g => exact .inr (fun e2 => own_apart H.out.kid H.out.nodes (by decide) g e e2.symm))
      have HNE' := Lib.hid (show (Value.slice na ns.length nc).ownBlock = none ∨ (Value.slice na ns.length nc).ownBlock ≠ (Value.slice ka ns.length kc).ownBlock by
        cases e : (Value.slice na ns.length nc).ownBlock with
        | none => exact .inl rfl
        | some g => exact .inr (fun e2 => own_apart H.out.nodes H.out.kid (by decide) g e e2.symm))
      have HKD := Lib.hid (may_kids HMAY.out)
      rw [HKL.out] at HKD
      have fz1 := dz 1
      have fz2 := dz 2
      clear dz
      clear m0 m1 m2 m3 m4 m5 m6 c0 c1 c2 c3 hB3 zlt zge hpv
      obtain ⟨i0, hi, hzz, hz1, hz2⟩ := info_parts infoNode
      go_cut [] (fun wc => PutMid base pb most ns n (poolFp pb na ka) w wc)
      case first =>
        refine wp_region_until (fun w' => w'.cell? ⟨pb, 1, none⟩ = some (.slice na ns.length nc) ∧ w'.cell? ⟨pb, 2, none⟩ = some (.slice ka ns.length kc) ∧ w'.cell? ⟨w.heap.size, 0, none⟩ = some (.int .u8 n.k) ∧ w'.cell? ⟨w.heap.size, 1, none⟩ = some (.int .i64 n.l) ∧ w'.cell? ⟨w.heap.size, 2, none⟩ = some (.int .i64 n.r) ∧ w'.cell? ⟨w.heap.size, 3, none⟩ = some (.int .i64 n.f) ∧ w'.cell? ⟨w.heap.size, 4, none⟩ = some (.int .i64 n.t) ∧ w'.cell? ⟨w.heap.size, 5, none⟩ = some (.int .i64 n.a) ∧ w'.cell? ⟨w.heap.size, 6, none⟩ = some (.int .i64 n.i)) [5, 6, 7, 8, 9, 13] (by kernel_rfl) ?_
        have hS : ((fun w' => w'.cell? ⟨pb, 1, none⟩ = some (.slice na ns.length nc) ∧ w'.cell? ⟨pb, 2, none⟩ = some (.slice ka ns.length kc) ∧ w'.cell? ⟨w.heap.size, 0, none⟩ = some (.int .u8 n.k) ∧ w'.cell? ⟨w.heap.size, 1, none⟩ = some (.int .i64 n.l) ∧ w'.cell? ⟨w.heap.size, 2, none⟩ = some (.int .i64 n.r) ∧ w'.cell? ⟨w.heap.size, 3, none⟩ = some (.int .i64 n.f) ∧ w'.cell? ⟨w.heap.size, 4, none⟩ = some (.int .i64 n.t) ∧ w'.cell? ⟨w.heap.size, 5, none⟩ = some (.int .i64 n.a) ∧ w'.cell? ⟨w.heap.size, 6, none⟩ = some (.int .i64 n.i))) V3.drew := ⟨d1, d2, x0, x1, x2, x3, x4, x5, x6⟩
        refine wpAnyU_free (i := 0) rfl (by kernel_rfl) (by kernel_rfl) (by kernel_rfl) (by kernel_rfl) (by kernel_rfl) (fun _ _ _ h => h) rfl (fun w => by go_simp; rfl) (.inr hS) ?_
        (try simp only [Act.put, List.setIfInBounds_toArray, List.set_cons_zero, List.set_cons_succ])
        refine wpAnyU_free (i := 1) rfl (by kernel_rfl) (by kernel_rfl) (by kernel_rfl) (by kernel_rfl) (by kernel_rfl) (fun _ _ _ h => h) rfl (fun w => by go_simp; rfl) (.inr hS) ?_
        (try simp only [Act.put, List.setIfInBounds_toArray, List.set_cons_zero, List.set_cons_succ])
        refine wpAnyU_free (i := 2) rfl (by kernel_rfl) (by kernel_rfl) (by kernel_rfl) (by kernel_rfl) (by kernel_rfl) (fun _ _ _ h => h) rfl (fun w => by go_simp; rfl) (.inr hS) ?_
        (try simp only [Act.put, List.setIfInBounds_toArray, List.set_cons_zero, List.set_cons_succ])
        refine wpAnyU_free (i := 10) rfl (by kernel_rfl) (by kernel_rfl) (by kernel_rfl) (by kernel_rfl) (by kernel_rfl) (fun _ _ _ h => h) rfl (fun w => by go_simp; rfl) (.inr hS) ?_
        (try simp only [Act.put, List.setIfInBounds_toArray, List.set_cons_zero, List.set_cons_succ])
        refine wpAnyU_free (i := 3) rfl (by kernel_rfl) (by kernel_rfl) (by kernel_rfl) (by kernel_rfl) (by kernel_rfl) (fun _ _ _ h => h) rfl (fun w => by go_simp; rfl) (.inr hS) ?_
        (try simp only [Act.put, List.setIfInBounds_toArray, List.set_cons_zero, List.set_cons_succ])
        refine wpAnyU_free (i := 11) rfl (by kernel_rfl) (by kernel_rfl) (by kernel_rfl) (by kernel_rfl) (by kernel_rfl) (fun _ _ _ h => h) rfl (fun w => by go_simp; rfl) (.inr hS) ?_
        (try simp only [Act.put, List.setIfInBounds_toArray, List.set_cons_zero, List.set_cons_succ])
        refine wpAnyU_free (i := 4) rfl (by kernel_rfl) (by kernel_rfl) (by kernel_rfl) (by kernel_rfl) (by kernel_rfl) (fun _ _ _ h => h) rfl (fun w => by go_simp; rfl) (.inr hS) ?_
        (try simp only [Act.put, List.setIfInBounds_toArray, List.set_cons_zero, List.set_cons_succ])
        refine wpAnyU_free (i := 12) rfl (by kernel_rfl) (by kernel_rfl) (by kernel_rfl) (by kernel_rfl) (by kernel_rfl) (fun _ _ _ h => h) rfl (fun w => by go_simp; rfl) (.inr hS) ?_
        (try simp only [Act.put, List.setIfInBounds_toArray, List.set_cons_zero, List.set_cons_succ])
        refine wpAnyU_take (i := 5) rfl (by kernel_rfl) (by kernel_rfl) (by kernel_rfl) (by kernel_rfl) (by kernel_rfl) (by kernel_rfl) (fun _ _ _ h => h) rfl (by rintro w ⟨g1, g2, g3, g4, g5, g6, g7, g8, g9⟩; go_simp; rfl) hS ?_
        (try simp only [Act.put, List.setIfInBounds_toArray, List.set_cons_zero, List.set_cons_succ])
        refine wpAnyU_take (i := 6) rfl (by kernel_rfl) (by kernel_rfl) (by kernel_rfl) (by kernel_rfl) (by kernel_rfl) (by kernel_rfl) (fun _ _ _ h => h) rfl (by rintro w ⟨g1, g2, g3, g4, g5, g6, g7, g8, g9⟩; go_simp; rfl) hS ?_
        (try simp only [Act.put, List.setIfInBounds_toArray, List.set_cons_zero, List.set_cons_succ])
        refine wpAnyU_take (i := 9) rfl (by kernel_rfl) (by kernel_rfl) (by kernel_rfl) (by kernel_rfl) (by kernel_rfl) (by kernel_rfl) (fun _ _ _ h => h) rfl (by rintro w ⟨g1, g2, g3, g4, g5, g6, g7, g8, g9⟩; go_simp; rfl) hS ?_
        (try simp only [Act.put, List.setIfInBounds_toArray, List.set_cons_zero, List.set_cons_succ])
        refine wpAnyU_take (i := 13) rfl (by kernel_rfl) (by kernel_rfl) (by kernel_rfl) (by kernel_rfl) (by kernel_rfl) (by kernel_rfl) (fun _ _ _ h => h) rfl (by rintro w ⟨g1, g2, g3, g4, g5, g6, g7, g8, g9⟩; go_simp; rfl) hS ?_
        (try simp only [Act.put, List.setIfInBounds_toArray, List.set_cons_zero, List.set_cons_succ])
        refine wpAnyU_step (i := 7) rfl (by kernel_rfl) rfl (fun K hK => ?_)
        go_simp
        have z0 : pb < V3.heap.size + 1 := by omega
        have hS1 : ((fun w' => w'.cell? ⟨pb, 1, none⟩ = some (.slice na ns.length nc) ∧ w'.cell? ⟨pb, 2, none⟩ = some (.slice ka ns.length kc) ∧ w'.cell? ⟨w.heap.size, 0, none⟩ = some (.int .u8 n.k) ∧ w'.cell? ⟨w.heap.size, 1, none⟩ = some (.int .i64 n.l) ∧ w'.cell? ⟨w.heap.size, 2, none⟩ = some (.int .i64 n.r) ∧ w'.cell? ⟨w.heap.size, 3, none⟩ = some (.int .i64 n.f) ∧ w'.cell? ⟨w.heap.size, 4, none⟩ = some (.int .i64 n.t) ∧ w'.cell? ⟨w.heap.size, 5, none⟩ = some (.int .i64 n.a) ∧ w'.cell? ⟨w.heap.size, 6, none⟩ = some (.int .i64 n.i))) (V3.alloc (.cells #[.int .u8 n.k, .int .i64 n.l, .int .i64 n.r, .int .i64 n.f, .int .i64 n.t, .int .i64 n.a, .int .i64 n.i] 49)).drew := ⟨(cells_past V3 _ pb 1 p3).trans d1, (cells_past V3 _ pb 2 p3).trans d2, (cells_past V3 _ _ 0 z3).trans x0, (cells_past V3 _ _ 1 z3).trans x1, (cells_past V3 _ _ 2 z3).trans x2, (cells_past V3 _ _ 3 z3).trans x3, (cells_past V3 _ _ 4 z3).trans x4, (cells_past V3 _ _ 5 z3).trans x5, (cells_past V3 _ _ 6 z3).trans x6⟩
        refine hK.out _ _ hS1 (fun _ => ?_)
        clear hK K
        (try simp only [Act.put, List.setIfInBounds_toArray, List.set_cons_zero, List.set_cons_succ])
        refine wpAnyU_step (i := 8) rfl (by kernel_rfl) rfl (fun K hK => ?_)
        refine wp_append_any _ _ _ _ rfl base 49 i0 (nodeV 0 0 0 0 0 0 0) 7 56 Try.underlying27 hi hzz hz1 hz2 rfl (by omega) (.slice na ns.length nc) ns.length (flatN ns) rfl ((HN3.out.nodes.alloc _).drew) (V3.heap.size + 1) (some ⟨V3.heap.size, 0, none⟩) 1 1 n.cells.toList rfl ((reads_cells V3 n.cells _ 1 7 rfl).drew) (flatN_one [n]) (by unfold maxLen; omega) (by omega) (by simp; omega) ?_
        intro v1 w1 hown1 hgrow hat
        obtain ⟨a1, k1, rfl⟩ := own_shape hown1
        have hz1s := hgrow.size
        simp only [World.drew, World.size_alloc] at hz1s
        have stay1 : ∀ b, b < V3.heap.size → some b ≠ (Value.slice na ns.length nc).ownBlock → w1.heap[b]? = V3.heap[b]? := fun b hb hne => (hgrow.block b (by simp; omega) hne).trans (Below.heap_alloc V3 _ b hb)
        have hS2 : ((fun w' => w'.cell? ⟨pb, 1, none⟩ = some (.slice na ns.length nc) ∧ w'.cell? ⟨pb, 2, none⟩ = some (.slice ka ns.length kc) ∧ w'.cell? ⟨w.heap.size, 0, none⟩ = some (.int .u8 n.k) ∧ w'.cell? ⟨w.heap.size, 1, none⟩ = some (.int .i64 n.l) ∧ w'.cell? ⟨w.heap.size, 2, none⟩ = some (.int .i64 n.r) ∧ w'.cell? ⟨w.heap.size, 3, none⟩ = some (.int .i64 n.f) ∧ w'.cell? ⟨w.heap.size, 4, none⟩ = some (.int .i64 n.t) ∧ w'.cell? ⟨w.heap.size, 5, none⟩ = some (.int .i64 n.a) ∧ w'.cell? ⟨w.heap.size, 6, none⟩ = some (.int .i64 n.i))) w1 := ⟨(World.cell?_of_block (stay1 pb p3 HPN.out)).trans d1, (World.cell?_of_block (stay1 pb p3 HPN.out)).trans d2, (World.cell?_of_block (stay1 _ z3 HBN.out)).trans x0, (World.cell?_of_block (stay1 _ z3 HBN.out)).trans x1, (World.cell?_of_block (stay1 _ z3 HBN.out)).trans x2, (World.cell?_of_block (stay1 _ z3 HBN.out)).trans x3, (World.cell?_of_block (stay1 _ z3 HBN.out)).trans x4, (World.cell?_of_block (stay1 _ z3 HBN.out)).trans x5, (World.cell?_of_block (stay1 _ z3 HBN.out)).trans x6⟩
        refine hK.out _ _ hS2 (fun _ => ?_)
        clear hK K
        (try simp only [Act.put, List.setIfInBounds_toArray, List.set_cons_zero, List.set_cons_succ])
        have HK1 := Lib.hid (((HN3.out.kid.alloc _).drew).kept hgrow HNE.out)
        refine wpAnyU_late (i := 14) rfl (by kernel_rfl) rfl (by kernel_rfl) (fun K hK => ?_)
        go_simp
        refine (put_any' _ _ _ _ _ _ _ (ksFrom [] ns) ka kc base ns.length w1 HKL.out HK1.out HKD.out (by omega) (by omega)).mono ?_
        rintro e w2 ⟨v2, rfl, ho2, hg2, hl2⟩
        obtain ⟨a2, k2, rfl⟩ := own_shape ho2
        refine hK.out _ _ ?_
        clear hK K
        (try simp only [Act.put, List.setIfInBounds_toArray, List.set_cons_zero, List.set_cons_succ])
        refine wpAnyU_rest _ 15 6 rfl rfl (by kernel_rfl) (by kernel_rfl) ?_
        simp only [List.drop_succ_cons, List.drop_zero]
        have stay2 : ∀ b, b < V3.heap.size → some b ≠ (Value.slice na ns.length nc).ownBlock → some b ≠ (Value.slice ka ns.length kc).ownBlock → w2.heap[b]? = V3.heap[b]? := fun b hb hne hne2 => (hg2.block b (by omega) hne2).trans (stay1 b hb hne)
        have hb2 := (stay2 pb p3 HPN.out HPK.out).trans HN3.out.blk
        have HB2 := Lib.hid hb2
        have y1 := cell_of_row w2 pb 1 _ _ _ hb2
        have y2 := cell_of_row w2 pb 2 _ _ _ hb2
        have y1' : w2.cell? ⟨pb, 1, none⟩ = some (.slice na ns.length nc) := y1
        have y2' : w2.cell? ⟨pb, 2, none⟩ = some (.slice ka ns.length kc) := y2
        have f1 : w2.frozen? ⟨pb, 1, none⟩ = false := by simp [World.frozen?, hb2]
        have f2 : w2.frozen? ⟨pb, 2, none⟩ = false := by simp [World.frozen?, hb2]
        clear y1 y2 hb2
        have HO2 := Lib.hid ho2
        have HG2 := Lib.hid hg2
        have HL2 := Lib.hid hl2
        have HO1 := Lib.hid hown1
        have HG1 := Lib.hid hgrow
        have HA1 := Lib.hid hat
        clear ho2 hg2 hl2 hown1 hgrow hat hS hS1 hS2 stay1 stay2
        go_wp2_with fail
        go_meet
        case rel => exact put_end H.out HB3.out HG1.out HO1.out HA1.out HG2.out HO2.out HL2.out HMAY.out hroom
      case rest =>
        obtain ⟨na', ka', nc', kc', hP, hch, hfp⟩ := hcut
        obtain ⟨e0, e1, e2, e3, _⟩ := hP.cells
        have hlen : (ns ++ [n]).length = ns.length + 1 := by simp
        rw [hlen] at e1
        have HP := Lib.hid hP
        have HC := Lib.hid hch
        have HF := Lib.hid hfp
        clear hP hch hfp hlen d0 d1 d2 d3 x0 x1 x2 x3 x4 x5 x6 fz1 fz2 e2
        go_wp2
        go_ret2
        refine ⟨_, by unfold putAt; rw [HE.out]; simp, ?_, HC.out, HF.out⟩
        unfold putNs
        rw [HE.out]
        exact ⟨na', ka', nc', kc', rfl, HP.out⟩
    · have HE := Lib.hid (show putErr ns most n = 5 by unfold putErr; rw [if_pos hm, if_neg hroom])
      have hroom' : most ≤ ns.length := by omega
      clear hm hroom
      go_wp2_with fail
      refine wp_region_since (by kernel_rfl) (by kernel_rfl) ?_
      repeat (go_big_quiet_step (fail))
      refine wpQuiet_nil ?_
      rintro _ ⟨s3, rfl⟩
      go_wp2
      go_ret2
      have hb := HBV.out.trans (s3.h.mono HBV.out.size)
      refine ⟨_, by unfold putAt; rw [HE.out]; rfl, ?_, .below hb _, fun b hb => .inl hb⟩
      unfold putNs
      rw [HE.out]
      exact ⟨na, ka, nc, kc, rfl, H.out.later hb⟩
end Go.Proofs.Ytmfkpjafeaidkaa
