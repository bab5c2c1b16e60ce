/- The contracts of gridironlow.Nodes and CopyNodes. -/
import Derived.Test.YtmfkpjafeaidkaaRefTold
import Derived.Test.YtmfkpjafeaidkaaStructs
namespace Go.Proofs.Ytmfkpjafeaidkaa
open Go.RowKit
set_option linter.unusedVariables false

def nodeB (m n : Nd) : Bool := m.k == n.k && (m.l == n.l && (m.r == n.r && (m.f == n.f && (m.t == n.t && (m.a == n.a && (m.i == n.i && true))))))
theorem nodeB_iff (m n : Nd) : nodeB m n = true ↔ m = n := by
  unfold nodeB
  cases m; cases n
  simp
theorem node_fields (m n : Nd) : IntFields Try.prog m.cells n.cells [⟨"Kind", 5, 0, false, "", "", 0⟩, ⟨"L", 3, 1, false, "", "", 8⟩, ⟨"R", 3, 2, false, "", "", 16⟩, ⟨"From", 3, 3, false, "", "", 24⟩, ⟨"To", 3, 4, false, "", "", 32⟩, ⟨"At", 2, 5, false, "", "", 40⟩, ⟨"Item", 3, 6, false, "", "", 48⟩]
    [(.u8, m.k, n.k), (.i64, m.l, n.l), (.i64, m.r, n.r), (.i64, m.f, n.f), (.i64, m.t, n.t), (.i64, m.a, n.a), (.i64, m.i, n.i)] :=
  ⟨by decide, Try.underlying5, rfl, rfl, by decide, Try.underlying3, rfl, rfl, by decide, Try.underlying3, rfl, rfl, by decide, Try.underlying3, rfl, rfl, by decide, Try.underlying3, rfl, rfl, by decide, Try.underlying2, rfl, rfl, by decide, Try.underlying3, rfl, rfl, trivial⟩
theorem neq_node (m n : Nd) (w : World) : (binOp .neq 49 m.val n.val).run Try.prog w = .ok (.bool (!(nodeB m n))) w :=
  neq_ints _ _ Try.underlying49 (by kernel_rfl) _ _ _ (node_fields m n) w
theorem eql_node (m n : Nd) (w : World) : (binOp .eql 49 m.val n.val).run Try.prog w = .ok (.bool (nodeB m n)) w :=
  eql_ints _ _ Try.underlying49 (by kernel_rfl) _ _ _ (node_fields m n) w

def sameN (xs ys : List Nd) : Bool := xs.length == ys.length && (List.range xs.length).all fun i => nodeB (xs.getD i Nd.zero) (ys.getD i Nd.zero)
theorem sameN_iff (xs ys : List Nd) : sameN xs ys = true ↔ xs = ys := by
  unfold sameN
  rw [Bool.and_eq_true, beq_iff_eq, List.all_eq_true]
  constructor
  · rintro ⟨hl, h⟩
    refine List.ext_getElem hl fun i h1 h2 => ?_
    have := (nodeB_iff _ _).1 (h i (List.mem_range.2 h1))
    simpa [List.getD_eq_getElem?_getD, List.getElem?_eq_getElem h1, List.getElem?_eq_getElem h2] using this
  · rintro rfl
    exact ⟨rfl, fun i _ => (nodeB_iff _ _).2 rfl⟩
theorem sameN_no {xs ys : List Nd} (k : Nat) (h1 : k < xs.length) (h2 : k < ys.length) (h : nodeB (xs.getD k Nd.zero) (ys.getD k Nd.zero) = false) : sameN xs ys = false := by
  cases e : sameN xs ys with
  | false => rfl
  | true => rw [(sameN_iff xs ys).1 e, (nodeB_iff _ _).2 rfl] at h; cases h

theorem sameN_len {xs ys : List Nd} (h : xs.length ≠ ys.length) : sameN xs ys = false := by
  cases e : sameN xs ys with
  | false => rfl
  | true => exact absurd (by rw [(sameN_iff xs ys).1 e]) h
theorem sameN_all {xs ys : List Nd} (hl : xs.length = ys.length) (h : ∀ j, j < xs.length → nodeB (xs.getD j Nd.zero) (ys.getD j Nd.zero) = true) : sameN xs ys = true := by
  unfold sameN
  rw [Bool.and_eq_true, beq_iff_eq, List.all_eq_true]
  exact ⟨hl, fun i hi => h i (List.mem_range.1 hi)⟩

set_option maxRecDepth 100000 in
set_option maxHeartbeats 1000000 in
theorem nodes_any (xs ys : List Nd) (ao bo : Option Addr) (ca cb : Nat) (w : World) (hx : NdRow w ao xs) (hy : NdRow w bo ys) (lx : xs.length ≤ 2513169434907) (ly : ys.length ≤ 2513169434907) :
    Calls Try.prog 19 #[.slice ao xs.length ca, .slice bo ys.length cb] w fun e w' => e = .returned (.bool (sameN xs ys)) ∧ Below w.heap.size w w' := by
  go_enter Try.func19, Try.ntmps19
  go_wp2_with fail
  go_loopw [5] (fun i wr => ∃ k : Nat, k ≤ xs.length ∧ k ≤ ys.length ∧ i = .int .i64 k ∧ Hid (∀ j, j < k → nodeB (xs.getD j Nd.zero) (ys.getD j Nd.zero) = true) ∧ ∃ m, wr = w.drewN m)
    (fun i _ => xs.length - (intOf i).toNat)
  case atStart => exact ⟨0, Nat.zero_le _, Nat.zero_le _, rfl, Lib.hid (fun j h => by omega), 0, rfl⟩
  case round =>
    obtain ⟨k, hk1, hk2, rfl, HT, m, rfl⟩ := hrel
    by_cases l1 : k < xs.length
    · by_cases l2 : k < ys.length
      · obtain ⟨b1, o1, rfl, a0, a1, a2, a3, a4, a5, a6⟩ := hx.node k l1
        obtain ⟨b2, o2, rfl, c0, c1, c2, c3, c4, c5, c6⟩ := hy.node k l2
        have HNO := Lib.hid (sameN_no k l1 l2)
        clear hx hy
        obtain ⟨u, hu⟩ : ∃ u, xs.getD k Nd.zero = u := ⟨_, rfl⟩
        obtain ⟨v, hv⟩ : ∃ v, ys.getD k Nd.zero = v := ⟨_, rfl⟩
        rw [hu] at a0 a1 a2 a3 a4 a5 a6 HNO
        rw [hv] at c0 c1 c2 c3 c4 c5 c6 HNO
        have HU := Lib.hid hu
        have HV := Lib.hid hv
        clear hu hv
        have hne := neq_node u v
        cases huv : nodeB u v
        · have HUV := Lib.hid huv
          rw [huv] at hne
          clear huv
          go_wp2_with fail
          go_quiet (fail)
          go_wp2
          go_ret
          exact ⟨by rw [HNO.out HUV.out]; rfl, ⟨rfl, rfl, rfl, Nat.le_refl _, fun _ _ => rfl⟩⟩
        · have HUV := Lib.hid huv
          rw [huv] at hne
          clear huv
          go_wp2_with fail
          go_quiet (fail)
          go_wp2
          go_roundw
          case rel =>
            refine ⟨k + 1, by omega, by omega, by go_num, Lib.hid (fun j hj => ?_), _, rfl⟩
            by_cases e : j = k
            · rw [e, HU.out, HV.out]; exact HUV.out
            · exact HT.out j (by omega)
          case measure => simp [intOf]; omega
      · have hq : ((xs.length : Int) == ys.length) = false := by simp; omega
        have HS := Lib.hid (sameN_len (xs := xs) (ys := ys) (by omega))
        clear hx hy
        go_wp2
        go_ret
        exact ⟨by rw [HS.out]; rfl, ⟨rfl, rfl, rfl, Nat.le_refl _, fun _ _ => rfl⟩⟩
    · have HK := Lib.hid (show k = xs.length by omega)
      clear hx hy
      by_cases hl : xs.length = ys.length
      · have hq : ((xs.length : Int) == ys.length) = true := by simp [hl]
        have HS := Lib.hid (sameN_all hl (fun j hj => HT.out j (by have := HK.out; omega)))
        clear hl
        go_wp2
        all_goals go_ret
        all_goals exact ⟨by rw [HS.out]; rfl, ⟨rfl, rfl, rfl, Nat.le_refl _, fun _ _ => rfl⟩⟩
      · have hq : ((xs.length : Int) == ys.length) = false := by simp; omega
        have HS := Lib.hid (sameN_len (xs := xs) (ys := ys) hl)
        clear hl
        go_wp2
        all_goals go_ret
        all_goals exact ⟨by rw [HS.out]; rfl, ⟨rfl, rfl, rfl, Nat.le_refl _, fun _ _ => rfl⟩⟩

/-- Nodes as one row of cells. -/
def flatN (ns : List Nd) : List Value := ns.flatMap fun n => n.cells.toList
theorem flatN_len (ns : List Nd) : (flatN ns).length = ns.length * 7 := by
  induction ns with
  | nil => rfl
  | cons n ns ih => unfold flatN at *; rw [List.flatMap_cons, List.length_append, ih, List.length_cons]; simp [Nd.cells]; omega
theorem flatN_at (ns : List Nd) (i j : Nat) (hi : i < ns.length) (hj : j < 7) : (flatN ns)[i * 7 + j]? = (ns.getD i Nd.zero).cells[j]? := by
  induction ns generalizing i with
  | nil => simp at hi
  | cons n ns ih =>
    unfold flatN
    rw [List.flatMap_cons]
    have hl : n.cells.toList.length = 7 := rfl
    cases i with
    | zero => rw [List.getElem?_append_left (by omega)]; simp
    | succ i =>
      rw [List.getElem?_append_right (by omega), hl, show (i + 1) * 7 + j - 7 = i * 7 + j by omega]
      have h := ih i (by simp at hi; omega)
      unfold flatN at h
      rw [h]; simp
theorem flatN_one (ns : List Nd) : ∀ u ∈ flatN ns, u.oneCell' = true := by
  intro u hu
  obtain ⟨n, _, h⟩ := List.mem_flatMap.1 hu
  simp [Nd.cells] at h
  rcases h with rfl | rfl | rfl | rfl | rfl | rfl | rfl <;> rfl
theorem NdRow.reads {w : World} {ao : Option Addr} {ns : List Nd} (h : NdRow w ao ns) : Reads w w.heap.size 7 ao ns.length (flatN ns) := by
  refine ⟨flatN_len ns, fun hn => ?_⟩
  rcases h with h | ⟨b, off, e, hc⟩
  · subst h; simp at hn
  · have hb : b < w.heap.size := by
      have h1 := hc 0 hn 0 (by omega)
      have h2 : (ns.getD 0 Nd.zero).cells[0]? = some ((ns.getD 0 Nd.zero).cells[0]'(by simp [Nd.cells])) := Array.getElem?_eq_getElem _
      rw [h2] at h1
      exact World.block_lt_of_cell? _ _ h1
    refine ⟨_, e, hb, fun j u hu => ?_⟩
    have hj : j < ns.length * 7 := by have := (List.getElem?_eq_some_iff.1 hu).1; rwa [flatN_len] at this
    have h1 := hc (j / 7) (by omega) (j % 7) (by omega)
    rw [← flatN_at ns (j / 7) (j % 7) (by omega) (by omega), show j / 7 * 7 + j % 7 = j by omega, hu] at h1
    rw [show (⟨b, off, none⟩ : Addr).add j = ⟨b, off + (j / 7 * 7) + j % 7, none⟩ by unfold Addr.add; split <;> (try simp) <;> omega]
    exact h1
theorem row_of_nodes {w : World} {base : Nat} {e : TypeId} {ao : Option Addr} {cap n : Nat} {ns : List Nd} (h : w.ownsRow base e 7 (.slice ao n cap) n (flatN ns)) (hn : n = ns.length) : NdRow w ao ns := by
  subst hn
  rcases h.2 with ⟨h1, h2⟩ | ⟨g, cap', cur, hv, _⟩
  · exact .inl (List.eq_nil_of_length_eq_zero h2)
  · simp only [Value.slice.injEq] at hv
    obtain ⟨rfl, _, rfl⟩ := hv
    refine .inr ⟨g, 0, rfl, fun i hi j hj => ?_⟩
    rw [Nat.zero_add, h.cellAt (i * 7 + j) (by omega)]
    exact flatN_at ns i j hi hj
theorem own_zero (w : World) (e : TypeId) (size : Nat) {B : Nat} (hB : B ≤ w.heap.size) : (w.alloc (.cells #[] e)).ownsRow B e size (.slice (some ⟨w.heap.size, 0, none⟩) 0 0) 0 [] :=
  ⟨by simp, .inr ⟨w.heap.size, 0, #[], rfl, hB, World.alloc_heap_new w _, Nat.le_refl _, by unfold maxLen; omega, by simp, by simp⟩⟩
theorem infoNode : (Try.prog.info? 49).map (fun i => (i.zero, i.size, i.bytes)) = some (some (nodeV 0 0 0 0 0 0 0), 7, 56) := by kernel_rfl

/-- Nodes in memory of their own. -/
def NodesP (ns : List Nd) (w : World) (e : Ending) (w' : World) : Prop :=
  ∃ a c, e = .returned (.slice a ns.length c) ∧ w'.ownsRow w.heap.size 49 7 (.slice a ns.length c) ns.length (flatN ns) ∧ Below w.heap.size w w'
theorem own_cap {W : World} {base : Nat} {e : TypeId} {size n c : Nat} {a : Option Addr} {xs : List Value} (h : W.ownsRow base e size (.slice a n c) n xs) : n ≤ c := by
  rcases h.2 with ⟨h1, h2⟩ | ⟨g, cap', cur, hv, _, _, hc, _⟩
  · omega
  · simp only [Value.slice.injEq] at hv
    omega

set_option maxRecDepth 100000 in
set_option maxHeartbeats 1000000 in
theorem copyNodes_any (ns : List Nd) (ao : Option Addr) (cap : Nat) (w : World) (hrow : NdRow w ao ns) (hlen : ns.length ≤ 2513169434907) :
    Calls Try.prog 23 #[.slice ao ns.length cap] w (NodesP ns w) := by
  have hR := hrow.reads.alloc (Nat.le_refl _) (.cells #[] 49)
  have HR := Lib.hid hR
  clear hR hrow
  obtain ⟨i0, hi, hzz, hz1, hz2⟩ := info_parts infoNode
  go_enter Try.func23, Try.ntmps23
  go_wp2_with (at_builtin; refine wpList_append_any _ rfl (.tmp 3) (.tmp 4) 27 rfl w.heap.size 49 i0 (nodeV 0 0 0 0 0 0 0) 7 56 Try.underlying27 hi hzz hz1 hz2 rfl (by decide) _ _ _ rfl (own_zero w _ 7 (Nat.le_refl _)) _ _ _ _ _ rfl HR.out (flatN_one ns) (by unfold maxLen; omega) (by omega) (by simp) ?_)
  intro v2 w2 ho2 hg2 _
  obtain ⟨a2, k2, rfl⟩ := own_shape ho2
  have hb : Below w.heap.size w w2 := ((Below.refl _ w).alloc (Nat.le_refl _) _).grown hg2 (by simp) (fun r hr => by simp [Value.ownBlock] at hr; omega)
  have HB := Lib.hid hb
  have HO := Lib.hid ho2
  clear hb ho2 hg2
  go_wp2
  go_ret
  refine ⟨a2, k2, by simp, ?_, HB.out⟩
  have h := HO.out
  simpa using h
end Go.Proofs.Ytmfkpjafeaidkaa
