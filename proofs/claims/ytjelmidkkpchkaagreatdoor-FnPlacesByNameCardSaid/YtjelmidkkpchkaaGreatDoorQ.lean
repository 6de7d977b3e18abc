/-
  Plain laws on trees of classes: what a tree is, the kinds of a class, the common kind. No program in sight.
-/
import Derived.Test.YtjelmidkkpchkaaGreatDoorM0
namespace Go.Proofs.YtjelmidkkpchkaaGreatDoor

/-- The entry at i is as a tree wants it. -/
def okAt (zs : List Int) (i : Nat) : Bool := if i = 0 then nth zs 0 == -1 else inB (nth zs i) 0 ((i : Int) - 1)
def treeB (zs : List Int) : Bool := (List.range zs.length).all (okAt zs) && inB zs.length 1 20

theorem treeB_bad {zs : List Int} {k : Nat} (hk : k < zs.length) (h : okAt zs k = false) : treeB zs = false := by
  have e : (List.range zs.length).all (okAt zs) = false := by
    rw [List.all_eq_false]
    exact ⟨k, by simpa using hk, by simp [h]⟩
  rw [treeB, e]; rfl
theorem treeB_good {zs : List Int} (h : ∀ k, k < zs.length → okAt zs k = true) : treeB zs = inB zs.length 1 20 := by
  have e : (List.range zs.length).all (okAt zs) = true := by
    rw [List.all_eq_true]
    intro k hk
    exact h k (by simpa using hk)
  rw [treeB, e]; rfl
theorem treeB_iff {zs : List Int} : treeB zs = true ↔ (∀ k, k < zs.length → okAt zs k = true) ∧ 1 ≤ zs.length ∧ zs.length ≤ 20 := by
  rw [treeB, Bool.and_eq_true, List.all_eq_true, inB_iff]
  constructor
  · rintro ⟨h, h1, h2⟩
    exact ⟨fun k hk => h k (by simpa using hk), by omega, by omega⟩
  · rintro ⟨h, h1, h2⟩
    exact ⟨fun k hk => h k (by simpa using hk), by omega, by omega⟩

/-- A tree, in numbers. -/
structure Tree (zs : List Int) : Prop where
  one : 1 ≤ zs.length
  le : zs.length ≤ 20
  root : nth zs 0 = -1
  lo : ∀ k, 0 < k → k < zs.length → 0 ≤ nth zs k
  hi : ∀ k, 0 < k → k < zs.length → nth zs k < k

theorem treeB_tree {zs : List Int} (h : treeB zs = true) : Tree zs := by
  obtain ⟨h0, h1, h2⟩ := treeB_iff.1 h
  refine ⟨h1, h2, ?_, fun k h3 h4 => ?_, fun k h3 h4 => ?_⟩
  · simpa [okAt] using h0 0 (by omega)
  · have := h0 k h4
    rw [okAt, if_neg (by omega), inB_iff] at this
    omega
  · have := h0 k h4
    rw [okAt, if_neg (by omega), inB_iff] at this
    omega
theorem Tree.bounds {zs : List Int} (h : Tree zs) {k : Nat} (hk : k < zs.length) : -1 ≤ nth zs k ∧ nth zs k < k := by
  by_cases h0 : k = 0
  · subst h0; rw [h.root]; decide
  · have := h.lo k (by omega) hk
    have := h.hi k (by omega) hk
    omega
theorem Tree.treeB {zs : List Int} (h : Tree zs) : treeB zs = true := by
  rw [treeB_iff]
  refine ⟨fun k hk => ?_, h.one, h.le⟩
  rw [okAt]
  split
  · rename_i e; simp [h.root]
  · rw [inB_iff]
    have := h.lo k (by omega) hk
    have := h.hi k (by omega) hk
    omega

/-- The way up from a class, with fuel. -/
def up (zs : List Int) : Nat → Int → List Int
  | 0, _ => []
  | f + 1, a => if a < 0 then [] else a :: up zs f (nth zs a.toNat)
/-- All classes of which a class is a kind. -/
def kinds (zs : List Int) (a : Int) : List Int := up zs (a + 1).toNat a

theorem up_neg (zs : List Int) (f : Nat) {a : Int} (h : a < 0) : up zs f a = [] := by
  cases f with
  | zero => rfl
  | succ f => rw [up, if_pos h]
theorem up_fuel {zs : List Int} (h : Tree zs) : ∀ (f : Nat) (a : Int), a < zs.length → (a + 1).toNat ≤ f → up zs f a = kinds zs a := by
  intro f
  induction f using Nat.strongRecOn with
  | _ f ih =>
    intro a ha hf
    by_cases hn : a < 0
    · rw [up_neg _ _ hn, kinds, up_neg _ _ hn]
    · obtain ⟨k, rfl⟩ := Int.eq_ofNat_of_zero_le (Int.not_lt.1 hn)
      obtain ⟨g, rfl⟩ : ∃ g, f = g + 1 := ⟨f - 1, by omega⟩
      have hb := h.bounds (k := k) (by omega)
      have e : ((k : Int) + 1).toNat = k + 1 := by omega
      rw [kinds, e, up, if_neg hn, up, if_neg hn, Int.toNat_natCast]
      by_cases hg : g = k
      · rw [hg]
      · rw [ih g (by omega) _ (by omega) (by omega), ih k (by omega) _ (by omega) (by omega)]
theorem kinds_neg (zs : List Int) {a : Int} (h : a < 0) : kinds zs a = [] := up_neg _ _ h
theorem kinds_step {zs : List Int} (h : Tree zs) {k : Nat} (hk : k < zs.length) : kinds zs k = (k : Int) :: kinds zs (nth zs k) := by
  have hb := h.bounds hk
  have e : ((k : Int) + 1).toNat = k + 1 := by omega
  rw [kinds, e, up, if_neg (by omega), Int.toNat_natCast, up_fuel h k _ (by omega) (by omega)]
theorem kinds_le {zs : List Int} (h : Tree zs) : ∀ (k : Nat), k < zs.length → ∀ x ∈ kinds zs k, 0 ≤ x ∧ x ≤ k := by
  intro k
  induction k using Nat.strongRecOn with
  | _ k ih =>
    intro hk x hx
    have hb := h.bounds hk
    rw [kinds_step h hk, List.mem_cons] at hx
    rcases hx with rfl | hx
    · omega
    · by_cases hn : nth zs k < 0
      · rw [kinds_neg _ hn] at hx; simp at hx
      · obtain ⟨j, hj⟩ := Int.eq_ofNat_of_zero_le (Int.not_lt.1 hn)
        rw [hj] at hx
        have := ih j (by omega) (by omega) x hx
        omega
theorem kinds_len {zs : List Int} (h : Tree zs) : ∀ (k : Nat), k < zs.length → (kinds zs k).length ≤ k + 1 := by
  intro k
  induction k using Nat.strongRecOn with
  | _ k ih =>
    intro hk
    have hb := h.bounds hk
    rw [kinds_step h hk, List.length_cons]
    by_cases hn : nth zs k < 0
    · rw [kinds_neg _ hn]; simp
    · obtain ⟨j, hj⟩ := Int.eq_ofNat_of_zero_le (Int.not_lt.1 hn)
      rw [hj]
      have := ih j (by omega) (by omega)
      omega
theorem kinds_root {zs : List Int} (h : Tree zs) : ∀ (k : Nat), k < zs.length → (0 : Int) ∈ kinds zs k := by
  intro k
  induction k using Nat.strongRecOn with
  | _ k ih =>
    intro hk
    have hb := h.bounds hk
    rw [kinds_step h hk, List.mem_cons]
    by_cases h0 : k = 0
    · subst h0; simp
    · right
      have := h.lo k (by omega) hk
      obtain ⟨j, hj⟩ := Int.eq_ofNat_of_zero_le this
      rw [hj]
      exact ih j (by omega) (by omega)

/-- The error of a tree and classes. -/
def codeL (zs l : List Int) : Int := if treeB zs = true then (if allIn l 0 ((zs.length : Int) - 1) = true then 0 else 2) else 1
theorem codeL_tree {zs l : List Int} (h : codeL zs l = 0) : Tree zs := by
  unfold codeL at h
  split at h
  · rename_i h'; exact treeB_tree h'
  · simp at h
theorem codeL_in {zs l : List Int} (h : codeL zs l = 0) : ∀ x ∈ l, 0 ≤ x ∧ x < zs.length := by
  unfold codeL at h
  split at h
  · split at h
    · rename_i h2
      intro x hx
      rw [allIn, List.all_eq_true] at h2
      have := inB_iff.1 (h2 x hx)
      omega
    · simp at h
  · simp at h

/-- The nearest class of which both are a kind, on the way up from a. -/
def com (zs : List Int) (a b : Int) : Int := ((kinds zs a).find? (fun c => hasI (kinds zs b) c)).getD 0

theorem allIn_two {x y lo hi : Int} : allIn [x, y] lo hi = (inB x lo hi && inB y lo hi) := by simp [allIn]
theorem allIn_one {x lo hi : Int} : allIn [x] lo hi = inB x lo hi := by simp [allIn]
theorem codeL_same (zs : List Int) (x : Int) : codeL zs [x, x] = codeL zs [x] := by simp [codeL, allIn_two, allIn_one]
theorem codeL_bad {zs l : List Int} (h : treeB zs = false) : codeL zs l = 1 := by simp [codeL, h]
theorem codeL_range {zs l : List Int} {n : Nat} (hn : zs.length = n) (h : treeB zs = true) (h2 : allIn l 0 ((n : Int) - 1) = false) : codeL zs l = 2 := by subst hn; simp [codeL, h, h2]
theorem codeL_ok {zs l : List Int} {n : Nat} (hn : zs.length = n) (h : treeB zs = true) (h2 : allIn l 0 ((n : Int) - 1) = true) : codeL zs l = 0 := by subst hn; simp [codeL, h, h2]

theorem com_yes {zs : List Int} (h : Tree zs) {k : Nat} (hk : k < zs.length) {b : Int} (hb : hasI (kinds zs b) k = true) : com zs k b = k := by
  rw [com, kinds_step h hk, List.find?_cons_of_pos hb]; rfl
theorem com_no {zs : List Int} (h : Tree zs) {k : Nat} (hk : k < zs.length) {b : Int} (hb : hasI (kinds zs b) k = false) : com zs k b = com zs (nth zs k) b := by
  rw [com, kinds_step h hk, List.find?_cons_of_neg (by simp [hb])]; rfl
theorem hasI_iff {zs : List Int} {x : Int} : hasI zs x = true ↔ x ∈ zs := by rw [hasI, List.contains_iff_mem]
theorem hasI_root {zs : List Int} (h : Tree zs) {k : Nat} (hk : k < zs.length) : hasI (kinds zs k) 0 = true := hasI_iff.2 (kinds_root h k hk)
theorem com_spec {zs : List Int} (h : Tree zs) {b : Nat} (hb : b < zs.length) : ∀ (k : Nat), k < zs.length → com zs k b ∈ kinds zs k ∧ com zs k b ∈ kinds zs b ∧ ∀ x ∈ kinds zs k, x ∈ kinds zs b → x ≤ com zs k b := by
  intro k
  induction k using Nat.strongRecOn with
  | _ k ih =>
    intro hk
    cases e : hasI (kinds zs b) k
    · have h0 : k ≠ 0 := by
        rintro rfl
        rw [show ((0 : Nat) : Int) = 0 from rfl, hasI_root h hb] at e
        cases e
      have := h.lo k (by omega) hk
      have hh := h.hi k (by omega) hk
      obtain ⟨j, hj⟩ := Int.eq_ofNat_of_zero_le this
      have hi := ih j (by omega) (by omega)
      rw [com_no h hk e, hj, kinds_step h hk, hj]
      refine ⟨List.mem_cons_of_mem _ hi.1, hi.2.1, fun x hx hxb => ?_⟩
      rcases List.mem_cons.1 hx with rfl | hx
      · rw [hasI_iff.2 hxb] at e; cases e
      · exact hi.2.2 x hx hxb
    · rw [com_yes h hk e]
      refine ⟨by rw [kinds_step h hk]; simp, hasI_iff.1 e, fun x hx _ => (kinds_le h k hk x hx).2⟩
theorem com_comm {zs : List Int} (h : Tree zs) {a b : Nat} (ha : a < zs.length) (hb : b < zs.length) : com zs a b = com zs b a := by
  have h1 := com_spec h hb a ha
  have h2 := com_spec h ha b hb
  have := h1.2.2 _ h2.2.1 h2.1
  have := h2.2.2 _ h1.2.1 h1.1
  omega
theorem com_bd {zs : List Int} (h : Tree zs) {a b : Nat} (ha : a < zs.length) (hb : b < zs.length) : ∃ c : Nat, com zs a b = c ∧ c ≤ a := by
  have h1 := com_spec h hb a ha
  have := kinds_le h a ha _ h1.1
  obtain ⟨c, hc⟩ := Int.eq_ofNat_of_zero_le this.1
  exact ⟨c, hc, by omega⟩

theorem selN_zero (p : Nat → Bool) : selN 0 p = [] := rfl

/-- What the further functions answer. -/
def isKindR (zs : List Int) (x y : Int) : Bool := if codeL zs [x, y] = 0 then hasI (kinds zs x) y else false
def comR (zs : List Int) (x y : Int) : Int := if codeL zs [x, y] = 0 then com zs x y else 0
def distR (zs : List Int) (x y : Int) : Int := if codeL zs [x, y] = 0 then ((kinds zs x).length + (kinds zs y).length - 2 * (kinds zs (com zs x y)).length : Int) else 0
def leavesR (zs : List Int) : List Int := if codeL zs [] = 0 then selN zs.length (fun i => !hasI zs i) else []
def subR (zs : List Int) (x : Int) : List Int := if codeL zs [x] = 0 then selN zs.length (fun i => hasI (kinds zs i) x) else []
def addC (zs : List Int) (x : Int) : Int := if codeL zs [x] = 0 then (if zs.length = 20 then 3 else 0) else codeL zs [x]
def addR (zs : List Int) (x : Int) : List Int := if addC zs x = 0 then zs ++ [x] else []
def moveC (zs : List Int) (x y : Int) : Int := if codeL zs [x, y] = 0 then (if x ≤ y then 5 else 0) else codeL zs [x, y]
def moveR (zs : List Int) (x y : Int) : List Int := if moveC zs x y = 0 then zs.set x.toNat y else []

end Go.Proofs.YtjelmidkkpchkaaGreatDoor
