/-
  Links that are links have no circle in any year.
-/
import Derived.Test.YtkljdmdlmhdpiaaDoorLC
namespace Go.Proofs.YtkljdmdlmhdpiaaDoor

theorem nthS_left {l : List ByteArray} {x : ByteArray} {i : Nat} (h : i < l.length) : nthS (l ++ [x]) i = nthS l i := by
  rw [nthS_eq (by simp; omega), nthS_eq h, List.getElem_append_left h]
theorem nthS_snoc (l : List ByteArray) (x : ByteArray) : nthS (l ++ [x]) l.length = x := by simp [nthS]
def Chain (xs : List LinkV) (y : Int) (l : List ByteArray) : Prop := ∀ i, i + 1 < l.length → parB xs (nthS l i) y = true ∧ nthS l (i + 1) = parT xs (nthS l i) y
theorem wayU_spec {xs : List LinkV} {s : ByteArray} {y : Int} (hok : ∀ x ∈ xs, okLink x) (hs : s.size ≤ 1073741824) :
    ∃ l, wayU xs s y = l ∧ Path xs s y l ∧ ¬ (parB xs (lastS l) y = true ∧ hasS l (parT xs (lastS l) y) = false) ∧ Chain xs y l := by
  have key : ∀ k l, Path xs s y l → k + l.length = xs.length + 2 → wayU xs s y = wayN xs y k l → Chain xs y l →
      ∃ l, wayU xs s y = l ∧ Path xs s y l ∧ ¬ (parB xs (lastS l) y = true ∧ hasS l (parT xs (lastS l) y) = false) ∧ Chain xs y l := by
    intro k
    induction k with
    | zero => intro l hp hk _ _; have := hp.len; omega
    | succ k ih =>
      intro l hp hk hw hc
      by_cases h : parB xs (lastS l) y = true ∧ hasS l (parT xs (lastS l) y) = false
      · rw [wayN_step h.1 h.2] at hw
        refine ih _ (hp.step hok h.1 h.2) (by simp only [List.length_append, List.length_cons, List.length_nil]; omega) hw fun i hi => ?_
        simp only [List.length_append, List.length_cons, List.length_nil] at hi
        have hpos := hp.pos
        by_cases e : i + 1 < l.length
        · rw [nthS_left (by omega), nthS_left e]; exact hc i e
        · have e2 : i = l.length - 1 := by omega
          rw [nthS_left (by omega), show i + 1 = l.length by omega, nthS_snoc, e2]
          exact ⟨h.1, rfl⟩
      · exact ⟨l, by rw [hw, wayN_stop h], hp, h, hc⟩
  exact key (xs.length + 1) [s] (Path.start xs y hs) (by simp) rfl (fun i hi => by simp at hi)
theorem exists_max {α : Type} (f : α → Int) : ∀ (l : List α), l ≠ [] → ∃ x ∈ l, ∀ y ∈ l, f y ≤ f x
  | [], h => absurd rfl h
  | [x], _ => ⟨x, by simp, by simp⟩
  | x :: z :: l, _ => by
    obtain ⟨m, hm, hx⟩ := exists_max f (z :: l) (by simp)
    by_cases h : f x ≤ f m
    · exact ⟨m, List.mem_cons_of_mem _ hm, fun y hy => by
        rcases List.mem_cons.1 hy with rfl | hy
        · exact h
        · exact hx y hy⟩
    · exact ⟨x, List.mem_cons_self .., fun y hy => by
        rcases List.mem_cons.1 hy with rfl | hy
        · omega
        · have := hx y hy; omega⟩
theorem closed_last {xs : List LinkV} {y : Int} {C : ByteArray → Prop} (hC : ∀ d, C d → C (parT xs d y)) : ∀ k l, (∀ x ∈ l, C x) → 0 < l.length → C (lastS (wayN xs y k l)) := by
  have last : ∀ l : List ByteArray, (∀ x ∈ l, C x) → 0 < l.length → C (lastS l) := fun l h h0 => h _ (nthS_mem (by omega))
  intro k
  induction k with
  | zero => exact last
  | succ k ih =>
    intro l h h0
    rw [wayN]
    split
    · refine ih _ (fun x hx => ?_) (by simp)
      simp only [List.mem_append, List.mem_cons, List.mem_nil_iff, or_false] at hx
      rcases hx with hx | rfl
      · exact h x hx
      · exact hC _ (last l h h0)
    · exact last l h h0
theorem circ_closed {xs : List LinkV} {y : Int} {C : ByteArray → Prop} (hC : ∀ d, C d → parB xs d y = true ∧ C (parT xs d y)) {c : ByteArray} (hc : C c) : circB xs c y = true := by
  rw [circB, wayU]
  exact (hC _ (closed_last (fun d hd => (hC d hd).2) _ _ (by simpa using hc) (by simp))).1
theorem inB_at {x lo hi : Int} (h : inB x lo hi = true) : lo ≤ x ∧ x ≤ hi := inB_iff.1 h
theorem links_lt {xs : List LinkV} (h : linksB xs = true) {a b : Nat} (hab : a < b) (hb : b < xs.length) (hc : (nthLink xs a).child = (nthLink xs b).child) {t : Int} (h1 : inB t (nthLink xs a).from_ (nthLink xs a).to_ = true) (h2 : inB t (nthLink xs b).from_ (nthLink xs b).to_ = true) : False := by
  have hno := ((linksB_at h).1 b hb).2
  have := (anyP_not hno).2 a (by simp; omega)
  rw [List.getElem_take, ← nthLink_eq (by omega), clashL] at this
  have e1 := inB_at h1
  have e2 := inB_at h2
  have hm : meetB ⟨(nthLink xs a).from_, (nthLink xs a).to_⟩ ⟨(nthLink xs b).from_, (nthLink xs b).to_⟩ = true := by
    simp only [meetB, Bool.and_eq_true, decide_eq_true_eq]
    omega
  rw [hm, hc] at this
  simp at this
theorem links_uniq {xs : List LinkV} (h : linksB xs = true) {a b : Nat} (ha : a < xs.length) (hb : b < xs.length) (hc : (nthLink xs a).child = (nthLink xs b).child) {t : Int} (h1 : inB t (nthLink xs a).from_ (nthLink xs a).to_ = true) (h2 : inB t (nthLink xs b).from_ (nthLink xs b).to_ = true) : a = b := by
  rcases Nat.lt_trichotomy a b with hab | hab | hab
  · exact (links_lt h hab hb hc h1 h2).elim
  · exact hab
  · exact (links_lt h hab ha hc.symm h2 h1).elim
/-- The link that a place's parent comes from. -/
theorem par_link {xs : List LinkV} {c : ByteArray} {y : Int} (h : parB xs c y = true) : ∃ k, k < xs.length ∧ parI xs c y = (k : Nat) ∧ (nthLink xs k).child = c ∧ inB y (nthLink xs k).from_ (nthLink xs k).to_ = true := by
  rcases idxP_cases (parP c y) xs with ⟨h1, _⟩ | ⟨k, hk, h1, h2, _⟩
  · rw [parB, parI, h1] at h; cases h
  · rw [parP, Bool.and_eq_true, ← nthLink_eq hk] at h2
    exact ⟨k, hk, h1, of_decide_eq_true h2.1, h2.2⟩
theorem par_same {xs : List LinkV} (h : linksB xs = true) {k : Nat} (hk : k < xs.length) {t : Int} (ht : inB t (nthLink xs k).from_ (nthLink xs k).to_ = true) : parI xs (nthLink xs k).child t = (k : Nat) := by
  rcases idxP_cases (parP (nthLink xs k).child t) xs with ⟨_, h2⟩ | ⟨m, hm, h1, h2, _⟩
  · have := h2 k hk
    rw [← nthLink_eq hk, parP, ht] at this
    simp at this
  · rw [parP, Bool.and_eq_true, ← nthLink_eq hm] at h2
    rw [parI, h1, links_uniq h hm hk (of_decide_eq_true h2.1) h2.2 ht]
/-- No way up comes back to one of its places. -/
theorem no_circ {xs : List LinkV} (h : linksB xs = true) (hok : ∀ x ∈ xs, okLink x) {s : ByteArray} (hs : s.size ≤ 1073741824) (y : Int) : circB xs s y = false := by
  cases hc : circB xs s y
  · rfl
  exfalso
  obtain ⟨l, hl, hp, hstop, hch⟩ := wayU_spec (y := y) hok hs
  have hb : parB xs (lastS l) y = true := by rw [circB, hl] at hc; exact hc
  have hm : hasS l (parT xs (lastS l) y) = true := by
    cases hh : hasS l (parT xs (lastS l) y)
    · exact absurd ⟨hb, hh⟩ hstop
    · rfl
  obtain ⟨j, hj, hje, _⟩ := hasS_of hm
  have hpos := hp.pos
  have mem : ∀ i, j ≤ i → i < l.length → nthS l i ∈ l.drop j := fun i hji hil => by
    rw [nthS_eq hil]
    refine List.mem_iff_getElem.2 ⟨i - j, by simp; omega, ?_⟩
    rw [List.getElem_drop]
    congr 1
    omega
  have idx : ∀ c ∈ l.drop j, ∃ i, j ≤ i ∧ i < l.length ∧ nthS l i = c := fun c hc => by
    obtain ⟨i, hi, rfl⟩ := List.getElem_of_mem hc
    simp only [List.length_drop] at hi
    exact ⟨j + i, by omega, by omega, by rw [List.getElem_drop, nthS_eq (by omega)]⟩
  have hC : ∀ c ∈ l.drop j, parB xs c y = true ∧ parT xs c y ∈ l.drop j := fun c hc => by
    obtain ⟨i, hji, hil, rfl⟩ := idx c hc
    by_cases hlast : i + 1 < l.length
    · obtain ⟨h1, h2⟩ := hch i hlast
      exact ⟨h1, by rw [← h2]; exact mem _ (by omega) hlast⟩
    · have e : nthS l i = lastS l := by rw [lastS, show i = l.length - 1 by omega]
      rw [e]
      exact ⟨hb, by rw [← hje]; exact mem j (Nat.le_refl _) hj⟩
  obtain ⟨c, hcm, hmax⟩ := exists_max (fun c => (nthLink xs (parI xs c y).toNat).from_) (l.drop j) (by intro e; have := congrArg List.length e; simp at this; omega)
  obtain ⟨k, hk, hke, hkc, hky⟩ := par_link (hC c hcm).1
  have hmax' : ∀ d ∈ l.drop j, (nthLink xs (parI xs d y).toNat).from_ ≤ (nthLink xs k).from_ := fun d hd => by
    have := hmax d hd
    simp only [hke] at this
    exact this
  have e2 := inB_at hky
  have clos : ∀ d, d ∈ l.drop j → parB xs d (nthLink xs k).from_ = true ∧ parT xs d (nthLink xs k).from_ ∈ l.drop j := fun d hd => by
    obtain ⟨h1, h2⟩ := hC d hd
    obtain ⟨m, hm, hme, hmc, hmy⟩ := par_link h1
    have hle := hmax' d hd
    rw [hme] at hle
    have e1 := inB_at hmy
    have ht : inB (nthLink xs k).from_ (nthLink xs m).from_ (nthLink xs m).to_ = true := inB_yes (by simpa using hle) (by omega)
    have hs2 := par_same h hm ht
    rw [hmc] at hs2
    refine ⟨(par_some hs2).2, ?_⟩
    rw [(par_some hs2).1, ← (par_some hme).1]
    exact h2
  have hcc := circ_closed clos hcm
  have := circ2_bad hk hk (by rw [hkc]; exact hcc)
  rw [(linksB_at h).2.2] at this
  cases this

end Go.Proofs.YtkljdmdlmhdpiaaDoor
