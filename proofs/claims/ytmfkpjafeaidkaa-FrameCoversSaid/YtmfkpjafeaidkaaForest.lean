/- Right nodes are a forest: plain Lean. Walks from all roots enter each node once; below a node there are at most as many nodes as its place says. -/
import Derived.Test.YtmfkpjafeaidkaaPoolSpec
namespace Go.Proofs.Ytmfkpjafeaidkaa
set_option linter.unusedVariables false

/-- The node of a place. -/
def nd (ns : List Nd) (x : Int) : Nd := ns.getD x.toNat Nd.zero
/-- What a walk enters from a place on, in its order; d: does it go on below? -/
def entF (ns : List Nd) (d : Int → Bool) : Nat → Int → List Int
  | 0, _ => []
  | f + 1, x => if x < 0 then [] else x :: (if d x then entF ns d f (nd ns x).l ++ entF ns d f (nd ns x).r else [])
def ent (ns : List Nd) (d : Int → Bool) (x : Int) : List Int := entF ns d (x.toNat + 1) x
def below (ns : List Nd) (x : Int) : List Int := ent ns (fun _ => true) x

/-- Kids lie ahead of whose they are. -/
def KidsOk (ns : List Nd) : Prop := ∀ x : Int, 0 ≤ x → x < ns.length → ((nd ns x).l = -1 ∨ 0 ≤ (nd ns x).l ∧ (nd ns x).l < x) ∧ ((nd ns x).r = -1 ∨ 0 ≤ (nd ns x).r ∧ (nd ns x).r < x)

theorem entF_neg (ns : List Nd) (d : Int → Bool) (f : Nat) (x : Int) (h : x < 0) : entF ns d f x = [] := by cases f <;> simp [entF, h]
theorem entF_stable {ns : List Nd} (hk : KidsOk ns) (d : Int → Bool) : ∀ (f : Nat) (x : Int), x.toNat < f → x < ns.length → entF ns d f x = ent ns d x := by
  intro f
  induction f using Nat.strongRecOn with
  | ind f ih =>
    intro x hf hx
    by_cases h0 : x < 0
    · rw [entF_neg _ _ _ _ h0, ent, entF_neg _ _ _ _ h0]
    · obtain ⟨f', rfl⟩ : ∃ f', f = f' + 1 := ⟨f - 1, by omega⟩
      obtain ⟨hl, hr⟩ := hk x (by omega) hx
      have key : ∀ y : Int, (y = -1 ∨ 0 ≤ y ∧ y < x) → ∀ g, x.toNat ≤ g → g < f' + 1 → entF ns d g y = ent ns d y := by
        intro y hy g hg hgf
        rcases hy with rfl | ⟨h1, h2⟩
        · rw [entF_neg _ _ _ _ (by omega), ent, entF_neg _ _ _ _ (by omega)]
        · exact ih g hgf y (by omega) (by omega)
      unfold ent
      simp only [entF, h0, if_false]
      rw [key _ hl f' (by omega) (by omega), key _ hr f' (by omega) (by omega), key _ hl x.toNat (by omega) (by omega), key _ hr x.toNat (by omega) (by omega)]
theorem ent_eq {ns : List Nd} (hk : KidsOk ns) (d : Int → Bool) (x : Int) (h0 : 0 ≤ x) (hx : x < ns.length) :
    ent ns d x = x :: (if d x then ent ns d (nd ns x).l ++ ent ns d (nd ns x).r else []) := by
  obtain ⟨hl, hr⟩ := hk x h0 hx
  have key : ∀ y : Int, (y = -1 ∨ 0 ≤ y ∧ y < x) → entF ns d x.toNat y = ent ns d y := by
    intro y hy
    rcases hy with rfl | ⟨h1, h2⟩
    · rw [entF_neg _ _ _ _ (by omega), ent, entF_neg _ _ _ _ (by omega)]
    · exact entF_stable hk d _ _ (by omega) (by omega)
  rw [ent, entF, if_neg (by omega), key _ hl, key _ hr]
theorem ent_neg (ns : List Nd) (d : Int → Bool) (x : Int) (h : x < 0) : ent ns d x = [] := entF_neg _ _ _ _ h
theorem ent_len (ns : List Nd) (d : Int → Bool) (f : Nat) (x : Int) : (entF ns d f x).length ≤ (entF ns (fun _ => true) f x).length := by
  induction f generalizing x with
  | zero => simp [entF]
  | succ f ih =>
    simp only [entF, if_true]
    by_cases h : x < 0
    · simp [h]
    · simp only [h, if_false, List.length_cons, List.length_append]
      have h1 := ih (nd ns x).l
      have h2 := ih (nd ns x).r
      split
      · simp only [List.length_append]; omega
      · simp

/-! ### Right nodes -/
def rangeI (n : Nat) : List Int := (List.range n).map (fun k : Nat => (k : Int))
theorem rangeI_succ (n : Nat) : rangeI (n + 1) = rangeI n ++ [(n : Int)] := by unfold rangeI; rw [List.range_succ, List.map_append]; rfl
theorem mem_rangeI {n : Nat} {x : Int} : x ∈ rangeI n ↔ 0 ≤ x ∧ x < n := by
  unfold rangeI; simp only [List.mem_map, List.mem_range]
  exact ⟨fun ⟨k, h1, h2⟩ => by omega, fun ⟨h1, h2⟩ => ⟨x.toNat, by omega, by omega⟩⟩
theorem nodup_rangeI (n : Nat) : (rangeI n).Nodup := by
  induction n with
  | zero => simp [rangeI]
  | succ n ih => rw [rangeI_succ, List.nodup_append]; exact ⟨ih, by simp, fun a ha b hb => by simp at hb; have := (mem_rangeI.1 ha).2; omega⟩
/-- Who is nobody's kid. -/
def rootsL (ks : List Bool) : List Int := (rangeI ks.length).filter fun x => !(ks.getD x.toNat true)
theorem mem_rootsL {ks : List Bool} {x : Int} : x ∈ rootsL ks ↔ okKid ks x = true := by
  unfold rootsL okKid; rw [List.mem_filter, mem_rangeI]; simp only [Bool.and_eq_true, decide_eq_true_eq]
theorem nodup_rootsL (ks : List Bool) : (rootsL ks).Nodup := (List.filter_sublist).nodup (nodup_rangeI _)

theorem markL_get (ks : List Bool) (l : List Int) (x : Int) (h0 : 0 ≤ x) (hx : x < ks.length) (hl : ∀ y ∈ l, 0 ≤ y) : (markL ks l).getD x.toNat true = (ks.getD x.toNat true || l.contains x) := by
  unfold markL
  induction l generalizing ks with
  | nil => simp
  | cons y l ih =>
    rw [List.foldl_cons, ih _ (by simpa using hx) (fun z hz => hl z (List.mem_cons_of_mem _ hz))]
    have hy := hl y (List.mem_cons_self)
    simp only [List.getD_eq_getElem?_getD, List.getElem?_set, List.contains_cons]
    by_cases e : y.toNat = x.toNat
    · have : x = y := by omega
      subst this
      have h1 : x.toNat < ks.length := by omega
      simp [h1]
    · have : (x == y) = false := by simp; omega
      simp [e, this]

theorem may_nodup {k L R : Int} {ks : List Bool} (h : mayB k L R ks = true) : (kidsL L R).Nodup := by
  unfold mayB at h
  unfold kidsL at *
  by_cases hL : L = -1 <;> by_cases hR : R = -1 <;> simp_all
theorem may_roots {k L R : Int} {ks : List Bool} (h : mayB k L R ks = true) : ∀ x ∈ kidsL L R, x ∈ rootsL ks := by
  intro x hx
  unfold mayB AllK at h
  exact mem_rootsL.2 ((List.all_eq_true.1 (Bool.and_eq_true _ _ ▸ h).1) x hx)

theorem roots_step (ks : List Bool) (n : Nd) (h : mayB n.k n.l n.r ks = true) : rootsL (stepK ks n) = (rootsL ks).filter (fun x => !(n.kids.contains x)) ++ [(ks.length : Int)] := by
  unfold rootsL stepK
  rw [List.length_append, markL_len, List.length_singleton, rangeI_succ, List.filter_append, List.filter_filter]
  have hk := may_kids h
  congr 1
  · apply List.filter_congr
    intro x hx
    obtain ⟨h0, h1⟩ := mem_rangeI.1 hx
    have e := markL_get ks n.kids x h0 h1 (fun y hy => (hk y hy).1)
    have e2 : (markL ks n.kids ++ [false]).getD x.toNat true = (markL ks n.kids).getD x.toNat true := by
      simp only [List.getD_eq_getElem?_getD]
      rw [List.getElem?_append_left (by rw [markL_len]; omega)]
    rw [e2, e]; simp [Bool.and_comm]
  · have : (markL ks n.kids ++ [false]).getD ((ks.length : Int)).toNat true = false := by
      simp only [List.getD_eq_getElem?_getD]
      rw [List.getElem?_append_right (by rw [markL_len]; omega), markL_len]; simp
    simp only [List.filter_cons, List.filter_nil, this]
    rfl

theorem right_kidsOk {ns : List Nd} (h : rightL [] ns = true) : KidsOk ns := by
  intro x h0 hx
  have hlt : x.toNat < ns.length := by omega
  have hm : mayB (nd ns x).k (nd ns x).l (nd ns x).r (ksFrom [] (ns.take x.toNat)) = true := by
    cases e : mayB (nd ns x).k (nd ns x).l (nd ns x).r (ksFrom [] (ns.take x.toNat)) with
    | true => rfl
    | false => rw [rightL_no ns x.toNat hlt e] at h; cases h
  have hk := may_kids hm
  have hl : (ksFrom [] (ns.take x.toNat)).length = x.toNat := by rw [ksFrom_len]; simp; omega
  rw [hl] at hk
  constructor
  · by_cases e : (nd ns x).l = -1
    · exact .inl e
    · have := hk (nd ns x).l (by unfold kidsL; simp [e]); exact .inr (by omega)
  · by_cases e : (nd ns x).r = -1
    · exact .inl e
    · have := hk (nd ns x).r (by unfold kidsL; simp [e]); exact .inr (by omega)

theorem kids_flat (ns : List Nd) (n : Nd) : n.kids.flatMap (below ns) = below ns n.l ++ below ns n.r := by
  unfold Nd.kids kidsL
  have hn : below ns (-1) = [] := ent_neg _ _ _ (by omega)
  by_cases hL : n.l = -1 <;> by_cases hR : n.r = -1 <;> simp [hL, hR, hn]

/-- Walks from all roots enter each node, once. -/
theorem forest {ns : List Nd} (h : rightL [] ns = true) : ∀ i, i ≤ ns.length → ((rootsL (ksFrom [] (ns.take i))).flatMap (below ns)).Perm (rangeI i) := by
  intro i
  induction i with
  | zero => intro _; simp [rootsL, ksFrom, rangeI]
  | succ i ih =>
    intro hi
    have hlt : i < ns.length := by omega
    have ih' := ih (by omega)
    have hks : (ksFrom [] (ns.take i)).length = i := by rw [ksFrom_len]; simp; omega
    have hm : mayB (ns.getD i Nd.zero).k (ns.getD i Nd.zero).l (ns.getD i Nd.zero).r (ksFrom [] (ns.take i)) = true := by
      cases e : mayB (ns.getD i Nd.zero).k (ns.getD i Nd.zero).l (ns.getD i Nd.zero).r (ksFrom [] (ns.take i)) with
      | true => rfl
      | false => rw [rightL_no ns i hlt e] at h; cases h
    have hb : below ns (i : Int) = (i : Int) :: (ns.getD i Nd.zero).kids.flatMap (below ns) := by
      rw [kids_flat]
      have := ent_eq (right_kidsOk h) (fun _ => true) (i : Int) (by omega) (by omega)
      simpa [below, nd] using this
    rw [take_snoc' ns i hlt, ksFrom_snoc, roots_step _ _ hm, hks, rangeI_succ, List.flatMap_append]
    simp only [List.flatMap_cons, List.flatMap_nil, List.append_nil]
    rw [hb]
    generalize ns.getD i Nd.zero = n at *
    have hr : ((rootsL (ksFrom [] (ns.take i))).filter (fun x => !(n.kids.contains x)) ++ n.kids).Perm (rootsL (ksFrom [] (ns.take i))) := by
      have p1 := List.filter_append_perm (fun x => n.kids.contains x) (rootsL (ksFrom [] (ns.take i)))
      have p2 : ((rootsL (ksFrom [] (ns.take i))).filter (fun x => n.kids.contains x)).Perm n.kids := by
        refine (List.perm_ext_iff_of_nodup ((List.filter_sublist).nodup (nodup_rootsL _)) (may_nodup hm)).2 fun a => ?_
        rw [List.mem_filter]
        simp only [List.contains_iff_mem]
        exact ⟨fun h => h.2, fun h => ⟨may_roots hm a h, h⟩⟩
      exact ((List.Perm.append_left _ p2.symm).trans List.perm_append_comm).trans p1
    have q := (hr.flatMap_right (below ns)).trans ih'
    rw [List.flatMap_append] at q
    refine List.Perm.trans ?_ (q.append_right [(i : Int)])
    rw [List.append_assoc]
    exact List.Perm.append_left _ ((List.perm_append_comm (l₁ := [(i : Int)])))

/-- Below a node there are no more nodes than its place says, and one. -/
theorem below_len {ns : List Nd} (h : rightL [] ns = true) (x : Int) (h0 : 0 ≤ x) (hx : x < ns.length) : ((below ns x).length : Int) ≤ x + 1 := by
  have hlt : x.toNat < ns.length := by omega
  have f := forest h (x.toNat + 1) (by omega)
  have hks : (ksFrom [] (ns.take x.toNat)).length = x.toNat := by rw [ksFrom_len]; simp; omega
  have hm : mayB (ns.getD x.toNat Nd.zero).k (ns.getD x.toNat Nd.zero).l (ns.getD x.toNat Nd.zero).r (ksFrom [] (ns.take x.toNat)) = true := by
    cases e : mayB (ns.getD x.toNat Nd.zero).k (ns.getD x.toNat Nd.zero).l (ns.getD x.toNat Nd.zero).r (ksFrom [] (ns.take x.toNat)) with
    | true => rfl
    | false => rw [rightL_no ns x.toNat hlt e] at h; cases h
  rw [take_snoc' ns x.toNat hlt, ksFrom_snoc, roots_step _ _ hm, hks, List.flatMap_append] at f
  have l := f.length_eq
  simp only [List.length_append, List.flatMap_cons, List.flatMap_nil, List.append_nil, rangeI, List.length_map, List.length_range] at l
  rw [show ((x.toNat : Nat) : Int) = x by omega] at l
  omega
theorem ent_len_le {ns : List Nd} (h : rightL [] ns = true) (d : Int → Bool) (x : Int) (h0 : 0 ≤ x) (hx : x < ns.length) : ((ent ns d x).length : Int) ≤ x + 1 := by
  have h1 := ent_len ns d (x.toNat + 1) x
  have h2 := below_len h x h0 hx
  unfold below ent at h2
  unfold ent
  omega
end Go.Proofs.Ytmfkpjafeaidkaa
