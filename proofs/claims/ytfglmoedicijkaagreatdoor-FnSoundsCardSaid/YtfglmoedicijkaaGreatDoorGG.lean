/-
  Slices of slices of int64: how they lie; rows that a call owns.
-/
import Derived.Test.YtfglmoedicijkaaGreatDoorH
import Derived.Test.YtfglmoedicijkaaGreatDoorB
import Derived.Test.YtfglmoedicijkaaGreatDoorOC
import Derived.Test.YtfglmoedicijkaaGreatDoorGP
namespace Go.Proofs.YtfglmoedicijkaaGreatDoor
open Go.RowKit

/-- A group: its header and what it holds. -/
structure Gr where
  at_ : Option Addr
  cp : Nat
  zs : List Int
def valGr (q : Gr) : Value := .slice q.at_ q.zs.length q.cp
def layGr : Lay Gr where
  cells q := [valGr q]
  sz := 1
  len _ := rfl
  one _ u hu := by simp at hu; subst hu; rfl
  pos := by decide
def gzs (gs : List Gr) : List (List Int) := gs.map Gr.zs
theorem gzs_len (gs : List Gr) : (gzs gs).length = gs.length := by simp [gzs]

theorem own_grown {w w' : World} {B e sz n c m : Nat} {a : Option Addr} {xs : List Value} {r : Option Nat} (h : w.ownsRow B e sz (.slice a n c) m xs) (hd : w.grownBy w' r) (hne : ∀ k, (Value.slice a n c).ownBlock = some k → some k ≠ r) : w'.ownsRow B e sz (.slice a n c) m xs := by
  refine ⟨h.1, ?_⟩
  rcases h.2 with hn | ⟨g', cap, cur, hv, hbg, hgg, rest⟩
  · exact .inl hn
  · refine .inr ⟨g', cap, cur, hv, hbg, ?_, rest⟩
    rw [hd.block g' (Array.getElem?_eq_some_iff.1 hgg).1 (hne g' (by cases hv; rfl))]
    exact hgg
/-- Rows of elements of two kinds are not the same. -/
theorem own_apart {w : World} {B B' e e' sz sz' n n' c c' m m' : Nat} {a a' : Option Addr} {xs ys : List Value} (h : w.ownsRow B e sz (.slice a n c) m xs) (h' : w.ownsRow B' e' sz' (.slice a' n' c') m' ys) (hne : e ≠ e') {k : Nat} (hk : (Value.slice a n c).ownBlock = some k) : (Value.slice a' n' c').ownBlock ≠ some k := by
  intro hk'
  rcases h.2 with ⟨hn, _⟩ | ⟨g, cap, cur, hv, hb, hg, _⟩
  · cases hn; cases hk
  · rcases h'.2 with ⟨hn, _⟩ | ⟨g', cap', cur', hv', hb', hg', _⟩
    · cases hn; cases hk'
    · cases hv; cases hv'
      have e1 : g = k := by simpa [Value.ownBlock] using hk
      have e2 : g' = k := by simpa [Value.ownBlock] using hk'
      subst e1; subst e2
      rw [hg] at hg'
      simp only [Option.some.injEq, Obj.cells.injEq] at hg'
      exact hne hg'.2.1
/-- Groups that the call owns: the headers in a row, each group in a row of its own. -/
structure OwnGr (w : World) (B : Nat) (a : Option Addr) (n c : Nat) (gs : List Gr) : Prop where
  row : OwnG layGr 24 w B a n c gs
  each : ∀ q ∈ gs, OwnI w B q.at_ q.zs.length q.cp q.zs
  far : gs.Pairwise fun p q => ∀ k, (valGr p).ownBlock = some k → (valGr q).ownBlock ≠ some k
theorem OwnGr.ext {w w' : World} {B n c : Nat} {a : Option Addr} {gs : List Gr} (h : OwnGr w B a n c gs) (x : Ext w w') : OwnGr w' B a n c gs := ⟨h.row.ext x, fun q hq => (h.each q hq).ext x, h.far⟩
theorem OwnGr.mono {w : World} {B B' n c : Nat} {a : Option Addr} {gs : List Gr} (h : OwnGr w B a n c gs) (hb : B' ≤ B) : OwnGr w B' a n c gs := ⟨h.row.mono hb, fun q hq => (h.each q hq).mono hb, h.far⟩
theorem OwnGr.isNil (w : World) (B : Nat) : OwnGr w B none 0 0 [] := ⟨OwnG.isNil _ _ _ _, by simp, List.Pairwise.nil⟩
theorem kind_ne : 24 ≠ 2 := by decide

/-- What reads as a list of lists. -/
def RdGr (w : World) (a : Option Addr) (n : Nat) (zss : List (List Int)) : Prop := ∃ gs : List Gr, RdG layGr w a n gs ∧ (∀ q ∈ gs, RdI w q.at_ q.zs.length q.zs) ∧ gzs gs = zss
theorem RdGr.ext {w w' : World} {a : Option Addr} {n : Nat} {zss : List (List Int)} (h : RdGr w a n zss) (x : Ext w w') : RdGr w' a n zss := by
  obtain ⟨gs, h1, h2, h3⟩ := h
  exact ⟨gs, h1.ext x, fun q hq => (h2 q hq).ext x, h3⟩
theorem OwnGr.rd {w : World} {B n c : Nat} {a : Option Addr} {gs : List Gr} (h : OwnGr w B a n c gs) : RdGr w a n (gzs gs) := ⟨gs, h.row.rd, fun q hq => (h.each q hq).rd, rfl⟩
theorem RdGr.len {w : World} {a : Option Addr} {n : Nat} {zss : List (List Int)} (h : RdGr w a n zss) : zss.length = n := by
  obtain ⟨gs, h1, _, rfl⟩ := h
  rw [gzs_len, h1.len]
theorem RdGr.le {w : World} {a : Option Addr} {n : Nat} {zss : List (List Int)} (h : RdGr w a n zss) : n ≤ 4294967296 := by
  obtain ⟨gs, h1, _, _⟩ := h
  exact h1.le
/-- The header of group k, and what it holds. -/
theorem RdGr.at {w : World} {a : Option Addr} {n : Nat} {zss : List (List Int)} (h : RdGr w a n zss) (hn : 0 < n) :
    ∃ b o, a = some ⟨b, o, none⟩ ∧ b < w.heap.size ∧ ∀ k zs, zss[k]? = some zs → ∃ a' c', w.cell? ⟨b, o + k, none⟩ = some (.slice a' zs.length c') ∧ RdI w a' zs.length zs := by
  obtain ⟨gs, h1, h2, rfl⟩ := h
  obtain ⟨b, o, rfl, hb, hc⟩ := h1.at hn
  refine ⟨b, o, rfl, hb, fun k zs hk => ?_⟩
  rw [gzs, List.getElem?_map, Option.map_eq_some_iff] at hk
  obtain ⟨q, hq, rfl⟩ := hk
  have := hc k q hq 0 (valGr q) rfl
  exact ⟨q.at_, q.cp, by simpa [layGr, valGr] using this, h2 q (List.mem_of_getElem? hq)⟩

/-- One group more. -/
theorem OwnGr.snoc {w w' : World} {B n c c' : Nat} {a a' : Option Addr} {gs : List Gr} {q : Gr} {k : Nat} (h : OwnGr w B a n c gs) (hq : OwnI w B q.at_ q.zs.length q.cp q.zs) (hk : (valGr q).ownBlock = some k)
    (hfar : ∀ p ∈ gs, (valGr p).ownBlock ≠ some k) (hrow : OwnG layGr 24 w' B a' (n + 1) c' (gs ++ [q])) (hg : w.grownBy w' (Value.slice a n c).ownBlock) : OwnGr w' B a' (n + 1) c' (gs ++ [q]) := by
  refine ⟨hrow, fun p hp => ?_, ?_⟩
  · rcases List.mem_append.1 hp with m | e
    · refine ⟨own_grown (h.each p m).1 hg fun j hj e => ?_, (h.each p m).2⟩
      exact own_apart (h.each p m).1 h.row.1 (Ne.symm kind_ne) hj e.symm
    · obtain rfl := List.mem_singleton.1 e
      refine ⟨own_grown hq.1 hg fun j hj e => ?_, hq.2⟩
      exact own_apart hq.1 h.row.1 (Ne.symm kind_ne) hj e.symm
  · rw [List.pairwise_append]
    refine ⟨h.far, List.pairwise_singleton _ _, fun p hp r hr => ?_⟩
    rw [List.mem_singleton.1 hr]
    intro j hj e
    rw [hk] at e; cases e
    exact hfar p hp hj

/-- Groups that begin with different elements. -/
def Heads (gs : List Gr) : Prop := (∀ q ∈ gs, q.zs ≠ []) ∧ gs.Pairwise fun p q => p.zs[0]? ≠ q.zs[0]?
theorem own_head {w : World} {B n c k : Nat} {a : Option Addr} {zs : List Int} (h : OwnI w B a n c zs) (hk : (Value.slice a n c).ownBlock = some k) (hz : zs ≠ []) : ∃ x, zs[0]? = some x ∧ w.cell? ⟨k, 0, none⟩ = some (.int .i64 x) := by
  obtain ⟨x, r, rfl⟩ := List.exists_cons_of_ne_nil hz
  have hl := h.rd.len
  obtain ⟨b, o, ha, hb, hc⟩ := h.rd.at (by rw [← hl]; simp)
  rcases own_addr h.1 with e | ⟨g, e⟩
  · rw [e] at ha; cases ha
  · rw [e] at ha hk; cases ha
    have hgk : b = k := by simpa [Value.ownBlock] using hk
    rw [← hgk]
    exact ⟨x, rfl, by simpa [nth] using hc 0 (by rw [← hl]; simp)⟩
theorem far_of_heads {w : World} {B : Nat} {gs : List Gr} (h : ∀ q ∈ gs, OwnI w B q.at_ q.zs.length q.cp q.zs) (hh : Heads gs) : gs.Pairwise fun p q => ∀ k, (valGr p).ownBlock = some k → (valGr q).ownBlock ≠ some k := by
  refine List.Pairwise.imp_of_mem ?_ hh.2
  intro p q hp hq hne k h1 h2
  obtain ⟨x, hx, c1⟩ := own_head (h p hp) h1 (hh.1 p hp)
  obtain ⟨y, hy, c2⟩ := own_head (h q hq) h2 (hh.1 q hq)
  rw [c1] at c2
  simp only [Option.some.injEq, Value.int.injEq, true_and] at c2
  exact hne (by rw [hx, hy, c2])
theorem pair_set {α : Type} {R : α → α → Prop} : ∀ {xs : List α} {k : Nat} {x x' : α}, xs[k]? = some x → xs.Pairwise R → (∀ y, R x y → R x' y) → (∀ y, R y x → R y x') → (xs.set k x').Pairwise R
  | [], k, x, x', h, _, _, _ => by simp at h
  | y :: ys, 0, x, x', h, hp, h1, h2 => by
    obtain rfl : y = x := by simpa using h
    rw [List.set_cons_zero]
    obtain ⟨p1, p2⟩ := List.pairwise_cons.1 hp
    exact List.pairwise_cons.2 ⟨fun z hz => h1 z (p1 z hz), p2⟩
  | y :: ys, k + 1, x, x', h, hp, h1, h2 => by
    rw [List.set_cons_succ]
    obtain ⟨p1, p2⟩ := List.pairwise_cons.1 hp
    have h' : ys[k]? = some x := by simpa using h
    refine List.pairwise_cons.2 ⟨fun z hz => ?_, pair_set h' p2 h1 h2⟩
    rcases List.mem_or_eq_of_mem_set hz with m | e
    · exact p1 z m
    · rw [e]; exact h2 y (p1 x (List.mem_of_getElem? h'))
theorem Heads.set {gs : List Gr} {k : Nat} {q : Gr} (h : Heads gs) (hk : gs[k]? = some q) (a : Option Addr) (c : Nat) (x : Int) : Heads (gs.set k ⟨a, c, q.zs ++ [x]⟩) := by
  have hq := h.1 q (List.mem_of_getElem? hk)
  have h0 : (q.zs ++ [x])[0]? = q.zs[0]? := by
    obtain ⟨y, r, e⟩ := List.exists_cons_of_ne_nil hq
    rw [e]; rfl
  refine ⟨fun p hp => ?_, pair_set hk h.2 (fun y hy => by simpa only [h0] using hy) (fun y hy => by simpa only [h0] using hy)⟩
  rcases List.mem_or_eq_of_mem_set hp with m | e
  · exact h.1 p m
  · rw [e]; simp
/-- A group is appended to, and its header stored. -/
theorem OwnGr.upd {w w1 : World} {B n c g c1 k : Nat} {a1 : Option Addr} {gs : List Gr} {q : Gr} {x : Int} (h : OwnGr w B (some ⟨g, 0, none⟩) n c gs) (hh : Heads gs) (hk : gs[k]? = some q)
    (ho : OwnI w1 B a1 (q.zs.length + 1) c1 (q.zs ++ [x])) (hg : w.grownBy w1 (valGr q).ownBlock) :
    OwnGr (w1.setCell ⟨g, k, none⟩ (.slice a1 (q.zs.length + 1) c1)) B (some ⟨g, 0, none⟩) n c (gs.set k ⟨a1, c1, q.zs ++ [x]⟩) := by
  have hq := List.mem_of_getElem? hk
  have hrow : OwnG layGr 24 w1 B (some ⟨g, 0, none⟩) n c gs := ⟨own_grown h.row.1 hg (fun j hj e => own_apart h.row.1 (h.each q hq).1 kind_ne hj e.symm), h.row.2⟩
  have hset := hrow.setAt (k := k) (j := 0) (x' := ⟨a1, c1, q.zs ++ [x]⟩) (u := .slice a1 (q.zs.length + 1) c1) hk (by decide) (by simp [layGr, valGr])
  simp only [layGr, Nat.mul_one, Nat.add_zero] at hset
  have hsome : (Value.slice (some ⟨g, 0, none⟩) n c).ownBlock = some g := rfl
  have heach : ∀ p ∈ gs.set k ⟨a1, c1, q.zs ++ [x]⟩, OwnI w1 B p.at_ p.zs.length p.cp p.zs := by
    intro p hp
    obtain ⟨j, hj, e⟩ := List.getElem_of_mem hp
    rw [List.length_set] at hj
    rw [List.getElem_set] at e
    by_cases hjk : k = j
    · rw [if_pos hjk] at e
      rw [← e]
      simpa using ho
    · rw [if_neg hjk] at e
      have hpm : p ∈ gs := by rw [← e]; exact List.getElem_mem hj
      refine ⟨own_grown (h.each p hpm).1 hg fun i hi e2 => ?_, (h.each p hpm).2⟩
      have hkl : k < gs.length := (List.getElem?_eq_some_iff.1 hk).1
      have hkq : gs[k] = q := (List.getElem?_eq_some_iff.1 hk).2
      have hfar := List.pairwise_iff_getElem.1 h.far
      rcases Nat.lt_or_gt_of_ne hjk with hlt | hlt
      · have := hfar k j hkl hj hlt i (by rw [hkq]; exact e2.symm)
        rw [e] at this
        exact this hi
      · have := hfar j k hj hkl hlt i (by rw [e]; exact hi)
        rw [hkq] at this
        exact this e2.symm
  refine ⟨hset.1, fun p hp => ⟨own_grown (heach p hp).1 hset.2 fun i hi e => ?_, (heach p hp).2⟩, far_of_heads heach (hh.set hk a1 c1 x)⟩
  exact own_apart (heach p hp).1 hrow.1 (Ne.symm kind_ne) hi (by rw [hsome]; exact e.symm)

/-- The heads of the groups of indices. -/
theorem heads_grps {β : Type} [DecidableEq β] {f : Nat → β} {k : Nat} {gs : List Gr} (h : gzs gs = grps f k k) : Heads gs := by
  have hz : ∀ j (hj : j < gs.length), ∃ (hj2 : j < (firstsG f k).length) (l : List Int), gs[j].zs = (((firstsG f k)[j] : Nat) : Int) :: l := by
    intro j hj
    have hl : gs.length = (firstsG f k).length := by rw [← gzs_len, h, grps_len]
    have hj2 : j < (firstsG f k).length := by omega
    have e : gs[j].zs = likeG f k (firstsG f k)[j] := by
      have := congrArg (fun l => l[j]?) h
      simp only [grps_get hj2] at this
      rw [gzs, List.getElem?_map, List.getElem?_eq_getElem hj] at this
      simpa using this
    obtain ⟨m1, m2⟩ := firsts_mem.1 (List.getElem_mem hj2)
    obtain ⟨l, hl⟩ := like_head m1 m2
    exact ⟨hj2, l, by rw [e, hl]⟩
  refine ⟨fun q hq => ?_, ?_⟩
  · obtain ⟨j, hj, rfl⟩ := List.getElem_of_mem hq
    obtain ⟨_, l, e⟩ := hz j hj
    rw [e]; simp
  · rw [List.pairwise_iff_getElem]
    intro i j hi hj hij
    obtain ⟨i2, l, e1⟩ := hz i hi
    obtain ⟨j2, l2, e2⟩ := hz j hj
    have := List.pairwise_iff_getElem.1 (firsts_sorted (f := f) k) i j i2 j2 hij
    rw [e1, e2]
    simp only [List.getElem?_cons_zero, ne_eq, Option.some.injEq]
    omega
end Go.Proofs.YtfglmoedicijkaaGreatDoor
