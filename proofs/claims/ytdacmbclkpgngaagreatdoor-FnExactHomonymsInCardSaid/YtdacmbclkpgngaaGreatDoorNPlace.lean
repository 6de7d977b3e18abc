/-
  Place: how it lies (its names in a slice of their own); the statements' own helpers on such values and slices of them.
-/
import Derived.Test.YtdacmbclkpgngaaGreatDoorNName
import Derived.StillTailTactics
namespace Go.Proofs.YtdacmbclkpgngaaGreatDoor
open Go.RowKit

/-- A place with its names. -/
structure PlaceV where
  code : ByteArray
  klass : Int
  from_ : Int
  to_ : Int
  names : List NameV
/-- Where names lie. -/
structure Ref where
  a : Option Addr
  n : Nat
  c : Nat
/-- A place as it lies. -/
structure PlaceR where
  code : ByteArray
  klass : Int
  from_ : Int
  to_ : Int
  r : Ref
def rawP (x : PlaceV) (r : Ref) : PlaceR := ⟨x.code, x.klass, x.from_, x.to_, r⟩
def valPlace (x : PlaceV) (r : Ref) : Value := .agg #[.string x.code, .int .i64 x.klass, .int .i64 x.from_, .int .i64 x.to_, .slice r.a r.n r.c]
def layPlace : Lay PlaceR where
  cells x := [.string x.code, .int .i64 x.klass, .int .i64 x.from_, .int .i64 x.to_, .slice x.r.a x.r.n x.r.c]
  sz := 5
  len _ := rfl
  one _ u hu := by simp at hu; rcases hu with rfl | rfl | rfl | rfl | rfl <;> rfl
  pos := by decide
def nthPlace (xs : List PlaceV) (k : Nat) : PlaceV := xs.getD k ⟨ByteArray.empty, 0, 0, 0, []⟩
theorem nthPlace_eq {xs : List PlaceV} {k : Nat} (h : k < xs.length) : nthPlace xs k = xs[k] := by simp [nthPlace, h]
theorem nthPlace_mem {xs : List PlaceV} {k : Nat} (h : k < xs.length) : nthPlace xs k ∈ xs := by rw [nthPlace_eq h]; exact List.getElem_mem h
def raws (xs : List PlaceV) (f : Nat → Ref) : List PlaceR := (List.range xs.length).map fun k => rawP (nthPlace xs k) (f k)
theorem raws_len (xs : List PlaceV) (f : Nat → Ref) : (raws xs f).length = xs.length := by simp [raws]
theorem raws_get {xs : List PlaceV} {f : Nat → Ref} {k : Nat} (h : k < xs.length) : (raws xs f)[k]? = some (rawP (nthPlace xs k) (f k)) := by simp [raws, h]
/-- The names of a place read so. -/
def NamesAt (w : World) (r : Ref) (x : PlaceV) : Prop := RdName w r.a r.n x.names ∧ r.n ≤ r.c ∧ x.code.size ≤ 1073741824 ∧ r.n ≤ 1048576
theorem NamesAt.ext {w w' : World} {r : Ref} {x : PlaceV} (h : NamesAt w r x) (e : Ext w w') : NamesAt w' r x := ⟨h.1.ext e, h.2⟩
def RdPlaceF (w : World) (a : Option Addr) (n : Nat) (xs : List PlaceV) (f : Nat → Ref) : Prop := RdG layPlace w a n (raws xs f) ∧ ∀ k, k < n → NamesAt w (f k) (nthPlace xs k)
theorem RdPlaceF.ext {w w' : World} {a : Option Addr} {n : Nat} {xs : List PlaceV} {f : Nat → Ref} (h : RdPlaceF w a n xs f) (x : Ext w w') : RdPlaceF w' a n xs f := ⟨h.1.ext x, fun k hk => (h.2 k hk).ext x⟩
theorem RdPlaceF.len {w : World} {a : Option Addr} {n : Nat} {xs : List PlaceV} {f : Nat → Ref} (h : RdPlaceF w a n xs f) : xs.length = n := by rw [← raws_len xs f]; exact h.1.len
theorem RdPlaceF.le {w : World} {a : Option Addr} {n : Nat} {xs : List PlaceV} {f : Nat → Ref} (h : RdPlaceF w a n xs f) : n ≤ 4294967296 := h.1.le
theorem place_cells {w : World} {b o : Nat} {xs : List PlaceV} {f : Nat → Ref} (hc : ∀ k x, (raws xs f)[k]? = some x → ∀ j u, (layPlace.cells x)[j]? = some u → w.cell? ⟨b, o + (k * 5 + j), none⟩ = some u) {k : Nat} (hk : k < xs.length) :
    w.cell? ⟨b, o + k * 5, none⟩ = some (.string (nthPlace xs k).code) ∧ w.cell? ⟨b, o + k * 5 + 1, none⟩ = some (.int .i64 (nthPlace xs k).klass) ∧ w.cell? ⟨b, o + k * 5 + 2, none⟩ = some (.int .i64 (nthPlace xs k).from_) ∧ w.cell? ⟨b, o + k * 5 + 3, none⟩ = some (.int .i64 (nthPlace xs k).to_) ∧ w.cell? ⟨b, o + k * 5 + 4, none⟩ = some (.slice (f k).a (f k).n (f k).c) :=
  ⟨hc k _ (raws_get hk) 0 _ rfl, by rw [Nat.add_assoc]; exact hc k _ (raws_get hk) 1 _ rfl, by rw [Nat.add_assoc]; exact hc k _ (raws_get hk) 2 _ rfl, by rw [Nat.add_assoc]; exact hc k _ (raws_get hk) 3 _ rfl, by rw [Nat.add_assoc]; exact hc k _ (raws_get hk) 4 _ rfl⟩
theorem RdPlaceF.at {w : World} {a : Option Addr} {n : Nat} {xs : List PlaceV} {f : Nat → Ref} (h : RdPlaceF w a n xs f) (hn : 0 < n) :
    ∃ b o, a = some ⟨b, o, none⟩ ∧ b < w.heap.size ∧ ∀ k, k < n → w.cell? ⟨b, o + k * 5, none⟩ = some (.string (nthPlace xs k).code) ∧ w.cell? ⟨b, o + k * 5 + 1, none⟩ = some (.int .i64 (nthPlace xs k).klass) ∧ w.cell? ⟨b, o + k * 5 + 2, none⟩ = some (.int .i64 (nthPlace xs k).from_) ∧ w.cell? ⟨b, o + k * 5 + 3, none⟩ = some (.int .i64 (nthPlace xs k).to_) ∧ w.cell? ⟨b, o + k * 5 + 4, none⟩ = some (.slice (f k).a (f k).n (f k).c) := by
  obtain ⟨b, o, ha, hb, hc⟩ := h.1.at hn
  have hl := h.len
  exact ⟨b, o, ha, hb, fun k hk => place_cells hc (by omega)⟩
def rawsK (xs : List PlaceV) (f : Nat → Ref) (k : Nat) : List PlaceR := (List.range k).map fun i => rawP (nthPlace xs i) (f i)
theorem raws_K (xs : List PlaceV) (f : Nat → Ref) : raws xs f = rawsK xs f xs.length := rfl
theorem rawsK_len (xs : List PlaceV) (f : Nat → Ref) (k : Nat) : (rawsK xs f k).length = k := by simp [rawsK]
def upd {α : Type} (f : Nat → α) (k : Nat) (r : α) : Nat → α := fun i => if i = k then r else f i
theorem upd_at {α : Type} (f : Nat → α) (k : Nat) (r : α) : upd f k r k = r := by simp [upd]
theorem upd_ne {α : Type} (f : Nat → α) {k i : Nat} (r : α) (h : i ≠ k) : upd f k r i = f i := by simp [upd, h]
theorem rawsK_upd (xs : List PlaceV) (f : Nat → Ref) (k : Nat) (r : Ref) : rawsK xs (upd f k r) (k + 1) = rawsK xs f k ++ [rawP (nthPlace xs k) r] := by
  rw [rawsK, List.range_succ, List.map_append, rawsK]
  congr 1
  · refine List.map_congr_left fun i hi => ?_
    rw [upd_ne _ _ (by have := List.mem_range.1 hi; omega)]
  · simp [upd]
/-- The names of the first k, each in blocks of its own: those of place i between bs i and bs (i + 1). -/
def NamesOwn (w : World) (bs : Nat → Nat) (xs : List PlaceV) (f : Nat → Ref) (k : Nat) : Prop :=
  ∀ i, i < k → bs i ≤ bs (i + 1) ∧ OwnName w (bs i) (f i).a (f i).n (f i).c (nthPlace xs i).names ∧ (∀ g, (f i).a = some ⟨g, 0, none⟩ → g < bs (i + 1)) ∧ (nthPlace xs i).code.size ≤ 1073741824 ∧ (f i).n ≤ 1048576
/-- What a call has made: the row, and the names of each, in blocks from B on. -/
def OwnPlaceF (w : World) (B : Nat) (a : Option Addr) (n c : Nat) (xs : List PlaceV) (f : Nat → Ref) : Prop :=
  OwnG layPlace 68 w B a n c (raws xs f) ∧ ∃ bs : Nat → Nat, B ≤ bs 0 ∧ (∀ g, a = some ⟨g, 0, none⟩ → g < bs 0) ∧ NamesOwn w bs xs f n
theorem NamesOwn.mono {w : World} {bs : Nat → Nat} {xs : List PlaceV} {f : Nat → Ref} {k : Nat} (h : NamesOwn w bs xs f k) : ∀ i, i ≤ k → bs 0 ≤ bs i := by
  intro i
  induction i with
  | zero => intro _; exact Nat.le_refl _
  | succ i ih => intro hi; exact Nat.le_trans (ih (by omega)) (h i (by omega)).1
/-- What lies behind a block stays owned when that block alone is written. -/
theorem Wrote.above {w w' : World} {B' e' sz' n' c' m' : Nat} {a a' : Option Addr} {ys : List Value} (h : Wrote w w' a) (ho : w.ownsRow B' e' sz' (.slice a' n' c') m' ys) (hB : ∀ g, a = some g → g.block < B') : w'.ownsRow B' e' sz' (.slice a' n' c') m' ys := by
  refine ⟨ho.1, ?_⟩
  rcases ho.2 with hn | ⟨g2, cap, cur, hv, hbg, hgg, rest⟩
  · exact .inl hn
  · refine .inr ⟨g2, cap, cur, hv, hbg, ?_, rest⟩
    rw [h.block g2 (Array.getElem?_eq_some_iff.1 hgg).1 fun g' e => by have := hB g' e; omega]
    exact hgg
/-- What lies ahead of a block does too. -/
theorem Wrote.ahead {w w' : World} {e' sz' n' c' m' B' : Nat} {a a' : Option Addr} {ys : List Value} (h : Wrote w w' a) (ho : w.ownsRow B' e' sz' (.slice a' n' c') m' ys) (hB : ∀ g2 g, a' = some g2 → a = some g → g2.block < g.block) : w'.ownsRow B' e' sz' (.slice a' n' c') m' ys := by
  refine ⟨ho.1, ?_⟩
  rcases ho.2 with hn | ⟨g2, cap, cur, hv, hbg, hgg, rest⟩
  · exact .inl hn
  · refine .inr ⟨g2, cap, cur, hv, hbg, ?_, rest⟩
    cases hv
    rw [h.block g2 (Array.getElem?_eq_some_iff.1 hgg).1 fun g' e => by have := hB _ g' rfl e; exact Nat.ne_of_lt this]
    exact hgg
theorem NamesOwn.ext {w w' : World} {bs : Nat → Nat} {xs : List PlaceV} {f : Nat → Ref} {k : Nat} (h : NamesOwn w bs xs f k) (x : Ext w w') : NamesOwn w' bs xs f k := fun i hi => ⟨(h i hi).1, (h i hi).2.1.ext x, (h i hi).2.2⟩
theorem OwnPlaceF.ext {w w' : World} {B n c : Nat} {a : Option Addr} {xs : List PlaceV} {f : Nat → Ref} (h : OwnPlaceF w B a n c xs f) (x : Ext w w') : OwnPlaceF w' B a n c xs f := by
  obtain ⟨h1, bs, h2, h3, h4⟩ := h
  exact ⟨h1.ext x, bs, h2, h3, h4.ext x⟩
theorem OwnPlaceF.rd {w : World} {B n c : Nat} {a : Option Addr} {xs : List PlaceV} {f : Nat → Ref} (h : OwnPlaceF w B a n c xs f) : RdPlaceF w a n xs f := by
  obtain ⟨h1, bs, h2, h3, h4⟩ := h
  exact ⟨h1.rd, fun k hk => ⟨(h4 k hk).2.1.rd, (h4 k hk).2.1.cap, (h4 k hk).2.2.2⟩⟩
theorem OwnPlaceF.cap {w : World} {B n c : Nat} {a : Option Addr} {xs : List PlaceV} {f : Nat → Ref} (h : OwnPlaceF w B a n c xs f) : n ≤ c := by
  rcases h.1.1.2 with ⟨h1, h2⟩ | ⟨g, cap, cur, hv, _, _, hc, _⟩
  · omega
  · cases hv; exact hc

theorem OwnName.low {w : World} {B n c : Nat} {a : Option Addr} {xs : List NameV} (h : OwnName w B a n c xs) (b j : Nat) (u : Value) (hb : b < B) : OwnName (w.setCell ⟨b, j, none⟩ u) B a n c xs :=
  ⟨⟨Wrote.above ((Wrote.refl w (some ⟨b, 0, none⟩)).setCell j u) h.1.1 (fun g e => by cases e; exact hb), h.1.2⟩, h.2⟩
theorem cell_set_off (w : World) (b i j : Nat) (v : Value) (h : i ≠ j) : (w.setCell ⟨b, i, none⟩ v).cell? ⟨b, j, none⟩ = w.cell? ⟨b, j, none⟩ := World.cell?_setCell_other _ _ _ _ (fun e => h (congrArg Addr.off e))
theorem cell_set_far (w : World) (b b' i j : Nat) (v : Value) (h : b ≠ b') : (w.setCell ⟨b, i, none⟩ v).cell? ⟨b', j, none⟩ = w.cell? ⟨b', j, none⟩ := World.cell?_setCell_other _ _ _ _ (fun e => h (congrArg Addr.block e))
theorem cell_set_at {w : World} {b i : Nat} {u : Value} (v : Value) (h : w.cell? ⟨b, i, none⟩ = some u) : (w.setCell ⟨b, i, none⟩ v).cell? ⟨b, i, none⟩ = some v := World.cell?_setCell_same _ _ _ h
/-! The values. -/
/-- One that came in. -/
def NamesIn (w : World) (r : Ref) (x : PlaceV) : Prop := InName w r.a r.n x.names ∧ r.n ≤ r.c ∧ x.code.size ≤ 9223372036854775807
theorem NamesIn.ext {w w' : World} {r : Ref} {x : PlaceV} (h : NamesIn w r x) (e : Ext w w') : NamesIn w' r x := ⟨h.1.ext e, h.2⟩
def sizePlace (x : PlaceV) : Nat := x.code.size + (x.names.length + totName x.names)

set_option maxHeartbeats 400000 in
theorem szPlace_any (x : PlaceV) (r : Ref) (left : Int) (w : World) (hx : NamesIn w r x) (h0 : 0 ≤ left) (h1 : left ≤ 1048576) :
    Calls Tryz.prog 37 #[valPlace x r, .int .i64 left] w fun e w' => ∃ z, e = .returned (.int .i64 z) ∧ leftName (sizePlace x) left z ∧ Ext w w' := by
  obtain ⟨v0, v1, v2, v3, v4⟩ := x
  obtain ⟨ra, rn, rc⟩ := r
  obtain ⟨hx0, hx1, hx2⟩ := hx
  have hl := hx0.1
  have xb := (Ext.refl w).alloc (.cells #[.string v0, .int .i64 v1, .int .i64 v2, .int .i64 v3, .slice ra rn rc] 63)
  simp only [valPlace, sizePlace] at hx0 hx1 hx2 hl ⊢
  by_cases c0 : left < v0.size
  · go_enter Tryz.func37, Tryz.ntmps37
    go_wp2
    go_ret
    exact ⟨-1, rfl, ⟨fun h => by omega, fun _ => rfl⟩, xb⟩
  · go_enter Tryz.func37, Tryz.ntmps37
    go_wp2_with fail
    refine (szNameS_any _ _ _ _ _ _ (hx0.ext xb) (by omega) (by omega)).mono ?_
    rintro e w1 ⟨z, rfl, hz, e1⟩
    by_cases hneg : z < 0
    · go_wp2
      go_ret
      exact ⟨-1, rfl, ⟨fun h => by omega, fun _ => rfl⟩, xb.trans e1⟩
    · have h2 := hz.1 (by omega)
      go_wp2
      go_ret
      exact ⟨z, rfl, ⟨fun h => by omega, fun h => by omega⟩, xb.trans e1⟩

theorem left_namesAt {w : World} {x : PlaceV} {r : Ref} {left z : Int} (hx : NamesIn w r x) (h : leftName (sizePlace x) left z) (h0 : 0 ≤ z) (h1 : left ≤ 1048576) : NamesAt w r x := by
  have := h.1 h0
  unfold sizePlace at this
  have hl := hx.1.1
  refine ⟨hx.1.rd (by omega) fun y hy => ?_, hx.2.1, by omega, by omega⟩
  have h2 := totName_le hy
  unfold sizeName at h2
  unfold okName
  omega

set_option maxRecDepth 100000 in
set_option maxHeartbeats 1000000 in
theorem toPlace_any (x : PlaceV) (r : Ref) (w : World) (hx : NamesAt w r x) :
    Calls Tryz.prog 41 #[valPlace x r] w fun e w' => ∃ r', e = .returned (valPlace x r') ∧ r'.n = r.n ∧ OwnName w' w.heap.size r'.a r'.n r'.c x.names ∧ Ext w w' := by
  obtain ⟨v0, v1, v2, v3, v4⟩ := x
  obtain ⟨ra, rn, rc⟩ := r
  obtain ⟨hx0, hx1, hx2, hx3⟩ := hx
  simp only [valPlace] at hx0 hx1 hx2 hx3 ⊢
  go_enter Tryz.func41, Tryz.ntmps41
  go_wp2_with fail
  refine (toSpan_any ⟨v2, v3⟩ _).mono ?_
  rintro e w1 ⟨rfl, e1⟩
  rw [valSpan]
  have b0 : _ = some (Value.string v0) := box_keptG e1 0
  have b1 : _ = some (Value.int .i64 v1) := box_keptG e1 1
  have b2 : _ = some (Value.int .i64 0) := box_keptG e1 2
  have b3 : _ = some (Value.int .i64 0) := box_keptG e1 3
  have b4 : _ = some (Value.slice none 0 0) := box_keptG e1 4
  have f0 := box_frozen e1 0
  have f1 := box_frozen e1 1
  have f2 := box_frozen e1 2
  have f3 := box_frozen e1 3
  have f4 := box_frozen e1 4
  have g0 := box_frozen (((Ext.refl _).alloc _).trans e1) 0
  have g1 := box_frozen (((Ext.refl _).alloc _).trans e1) 1
  have g2 := box_frozen (((Ext.refl _).alloc _).trans e1) 2
  have g3 := box_frozen (((Ext.refl _).alloc _).trans e1) 3
  have g4 := box_frozen (((Ext.refl _).alloc _).trans e1) 4
  have k0 : _ = some (Value.string ⟨#[]⟩) := box_keptG (((Ext.refl _).alloc _).trans e1) 0
  have k1 : _ = some (Value.int .i64 0) := box_keptG (((Ext.refl _).alloc _).trans e1) 1
  have k2 : _ = some (Value.int .i64 0) := box_keptG (((Ext.refl _).alloc _).trans e1) 2
  have k3 : _ = some (Value.int .i64 0) := box_keptG (((Ext.refl _).alloc _).trans e1) 3
  have k4 : _ = some (Value.slice none 0 0) := box_keptG (((Ext.refl _).alloc _).trans e1) 4
  have p4 : _ = some (Value.slice ra rn rc) := box_keptG ((((Ext.refl _).alloc _).alloc _).trans e1) 4
  simp only [World.size_alloc] at b0 b1 b2 b3 b4 f0 f1 f2 f3 f4 g0 g1 g2 g3 g4 k0 k1 k2 k3 k4
  have hsz := e1.size
  simp only [World.size_alloc] at hsz
  have xa := ((((((Ext.refl w).alloc _).alloc _).alloc _).trans e1).setCell (p := ⟨w.heap.size + 1 + 1, 2, none⟩) (Nat.le_add_right _ 2) (.int .i64 v2)).setCell (p := ⟨w.heap.size + 1 + 1, 3, none⟩) (Nat.le_add_right _ 2) (.int .i64 v3)
  go_wp2_with fail
  refine (toNameS_any _ _ _ _ _ (hx0.ext xa)).mono ?_
  rintro e w2 ⟨v, rfl, a2, n2, c2, rfl, o2, e2⟩
  obtain rfl : rn = n2 := hx0.len.symm.trans o2.rd.len
  have d0 : w2.cell? ⟨w.heap.size + 1 + 1, 0, none⟩ = some (Value.string v0) := (Below.cell e2 (p := ⟨w.heap.size + 1 + 1, 0, none⟩) (by simp; omega)).trans ((cell_set_off _ _ 3 0 _ (by decide)).trans ((cell_set_off _ _ 2 0 _ (by decide)).trans b0))
  have h0 : w2.frozen? ⟨w.heap.size + 1 + 1, 0, none⟩ = false := (Below.frozen e2 (p := ⟨w.heap.size + 1 + 1, 0, none⟩) (by simp; omega)).trans (by simpa using f0)
  have m0 : w2.cell? ⟨w.heap.size + 1, 0, none⟩ = some (Value.string ⟨#[]⟩) := (Below.cell e2 (p := ⟨w.heap.size + 1, 0, none⟩) (by simp; omega)).trans ((cell_set_far _ _ _ 3 0 _ (by omega)).trans ((cell_set_far _ _ _ 2 0 _ (by omega)).trans k0))
  have n0 : w2.frozen? ⟨w.heap.size + 1, 0, none⟩ = false := (Below.frozen e2 (p := ⟨w.heap.size + 1, 0, none⟩) (by simp; omega)).trans (by simpa using g0)
  have d1 : w2.cell? ⟨w.heap.size + 1 + 1, 1, none⟩ = some (Value.int .i64 v1) := (Below.cell e2 (p := ⟨w.heap.size + 1 + 1, 1, none⟩) (by simp; omega)).trans ((cell_set_off _ _ 3 1 _ (by decide)).trans ((cell_set_off _ _ 2 1 _ (by decide)).trans b1))
  have h1 : w2.frozen? ⟨w.heap.size + 1 + 1, 1, none⟩ = false := (Below.frozen e2 (p := ⟨w.heap.size + 1 + 1, 1, none⟩) (by simp; omega)).trans (by simpa using f1)
  have m1 : w2.cell? ⟨w.heap.size + 1, 1, none⟩ = some (Value.int .i64 0) := (Below.cell e2 (p := ⟨w.heap.size + 1, 1, none⟩) (by simp; omega)).trans ((cell_set_far _ _ _ 3 1 _ (by omega)).trans ((cell_set_far _ _ _ 2 1 _ (by omega)).trans k1))
  have n1 : w2.frozen? ⟨w.heap.size + 1, 1, none⟩ = false := (Below.frozen e2 (p := ⟨w.heap.size + 1, 1, none⟩) (by simp; omega)).trans (by simpa using g1)
  have d2 : w2.cell? ⟨w.heap.size + 1 + 1, 2, none⟩ = some (Value.int .i64 v2) := (Below.cell e2 (p := ⟨w.heap.size + 1 + 1, 2, none⟩) (by simp; omega)).trans ((cell_set_off _ _ 3 2 _ (by decide)).trans (cell_set_at _ b2))
  have h2 : w2.frozen? ⟨w.heap.size + 1 + 1, 2, none⟩ = false := (Below.frozen e2 (p := ⟨w.heap.size + 1 + 1, 2, none⟩) (by simp; omega)).trans (by simpa using f2)
  have m2 : w2.cell? ⟨w.heap.size + 1, 2, none⟩ = some (Value.int .i64 0) := (Below.cell e2 (p := ⟨w.heap.size + 1, 2, none⟩) (by simp; omega)).trans ((cell_set_far _ _ _ 3 2 _ (by omega)).trans ((cell_set_far _ _ _ 2 2 _ (by omega)).trans k2))
  have n2 : w2.frozen? ⟨w.heap.size + 1, 2, none⟩ = false := (Below.frozen e2 (p := ⟨w.heap.size + 1, 2, none⟩) (by simp; omega)).trans (by simpa using g2)
  have d3 : w2.cell? ⟨w.heap.size + 1 + 1, 3, none⟩ = some (Value.int .i64 v3) := (Below.cell e2 (p := ⟨w.heap.size + 1 + 1, 3, none⟩) (by simp; omega)).trans (cell_set_at _ ((cell_set_off _ _ 2 3 _ (by decide)).trans b3))
  have h3 : w2.frozen? ⟨w.heap.size + 1 + 1, 3, none⟩ = false := (Below.frozen e2 (p := ⟨w.heap.size + 1 + 1, 3, none⟩) (by simp; omega)).trans (by simpa using f3)
  have m3 : w2.cell? ⟨w.heap.size + 1, 3, none⟩ = some (Value.int .i64 0) := (Below.cell e2 (p := ⟨w.heap.size + 1, 3, none⟩) (by simp; omega)).trans ((cell_set_far _ _ _ 3 3 _ (by omega)).trans ((cell_set_far _ _ _ 2 3 _ (by omega)).trans k3))
  have n3 : w2.frozen? ⟨w.heap.size + 1, 3, none⟩ = false := (Below.frozen e2 (p := ⟨w.heap.size + 1, 3, none⟩) (by simp; omega)).trans (by simpa using g3)
  have d4 : w2.cell? ⟨w.heap.size + 1 + 1, 4, none⟩ = some (Value.slice none 0 0) := (Below.cell e2 (p := ⟨w.heap.size + 1 + 1, 4, none⟩) (by simp; omega)).trans ((cell_set_off _ _ 3 4 _ (by decide)).trans ((cell_set_off _ _ 2 4 _ (by decide)).trans b4))
  have h4 : w2.frozen? ⟨w.heap.size + 1 + 1, 4, none⟩ = false := (Below.frozen e2 (p := ⟨w.heap.size + 1 + 1, 4, none⟩) (by simp; omega)).trans (by simpa using f4)
  have m4 : w2.cell? ⟨w.heap.size + 1, 4, none⟩ = some (Value.slice none 0 0) := (Below.cell e2 (p := ⟨w.heap.size + 1, 4, none⟩) (by simp; omega)).trans ((cell_set_far _ _ _ 3 4 _ (by omega)).trans ((cell_set_far _ _ _ 2 4 _ (by omega)).trans k4))
  have n4 : w2.frozen? ⟨w.heap.size + 1, 4, none⟩ = false := (Below.frozen e2 (p := ⟨w.heap.size + 1, 4, none⟩) (by simp; omega)).trans (by simpa using g4)
  have hsz2 := e2.size
  simp only [World.size_setCell] at hsz2
  have HO := Lib.hid o2
  clear b0 f0 g0 k0 b1 f1 g1 k1 b2 f2 g2 k2 b3 f3 g3 k3 b4 f4 g4 k4 p4 o2
  go_wp2
  refine bodyPost_ret (v := .agg #[.string v0, .int .i64 v1, .int .i64 v2, .int .i64 v3, .slice a2 rn c2]) (by simp [results, Tryz.results41, go_sem, m0, m1, m2, m3, m4]) rfl ⟨⟨a2, rn, c2⟩, rfl, rfl, ?_, (((((((xa.trans e2).setCell (p := ⟨w.heap.size + 1 + 1, 4, none⟩) (Nat.le_add_right _ 2) (.slice a2 rn c2)).setCell (p := ⟨w.heap.size + 1, 0, none⟩) (Nat.le_add_right _ 1) (.string v0)).setCell (p := ⟨w.heap.size + 1, 1, none⟩) (Nat.le_add_right _ 1) (.int .i64 v1)).setCell (p := ⟨w.heap.size + 1, 2, none⟩) (Nat.le_add_right _ 1) (.int .i64 v2)).setCell (p := ⟨w.heap.size + 1, 3, none⟩) (Nat.le_add_right _ 1) (.int .i64 v3)).setCell (p := ⟨w.heap.size + 1, 4, none⟩) (Nat.le_add_right _ 1) (.slice a2 rn c2))⟩
  have hB2 : w.heap.size + 1 + 1 < ((w1.setCell ⟨w.heap.size + 1 + 1, 2, none⟩ (.int .i64 v2)).setCell ⟨w.heap.size + 1 + 1, 3, none⟩ (.int .i64 v3)).heap.size := by simp; omega
  have hB1 : w.heap.size + 1 < ((w1.setCell ⟨w.heap.size + 1 + 1, 2, none⟩ (.int .i64 v2)).setCell ⟨w.heap.size + 1 + 1, 3, none⟩ (.int .i64 v3)).heap.size := by omega
  exact ((((((HO.out.low (w.heap.size + 1 + 1) 4 _ hB2).low (w.heap.size + 1) 0 _ hB1).low (w.heap.size + 1) 1 _ hB1).low (w.heap.size + 1) 2 _ hB1).low (w.heap.size + 1) 3 _ hB1).low (w.heap.size + 1) 4 _ hB1).mono (by simp; omega)

set_option maxRecDepth 100000 in
set_option maxHeartbeats 1000000 in
theorem eqPlace_same (x : PlaceV) (r r' : Ref) (w : World) (h : NamesAt w r x) (h' : NamesAt w r' x) :
    Calls Tryz.prog 48 #[valPlace x r, valPlace x r'] w fun e w' => e = .returned (.bool true) ∧ Ext w w' := by
  obtain ⟨v0, v1, v2, v3, v4⟩ := x
  obtain ⟨ra, rn, rc⟩ := r
  obtain ⟨qa, qn, qc⟩ := r'
  have ha := h.1
  have hb := h'.1
  simp only at ha hb
  obtain rfl : rn = qn := ha.len.symm.trans hb.len
  have xb := ((Ext.refl w).alloc (.cells #[.string v0, .int .i64 v1, .int .i64 v2, .int .i64 v3, .slice ra rn rc] 68)).alloc (.cells #[.string v0, .int .i64 v1, .int .i64 v2, .int .i64 v3, .slice qa rn qc] 68)
  simp only [valPlace]
  go_enter Tryz.func48, Tryz.ntmps48
  go_wp2_with fail
  refine (eqSpan_same ⟨v2, v3⟩ _).mono ?_
  rintro e w1 ⟨rfl, e1⟩
  have b4 : _ = some (Value.slice qa rn qc) := box_keptG e1 4
  have d4 : _ = some (Value.slice ra rn rc) := box_keptG (((Ext.refl _).alloc _).trans e1) 4
  simp only [World.size_alloc] at b4 d4
  go_wp2_with fail
  refine (eqNameS_same _ _ _ _ _ _ _ (ha.ext (xb.trans e1)) (hb.ext (xb.trans e1))).mono ?_
  rintro e w2 ⟨rfl, e2⟩
  go_wp2
  go_ret
  exact ⟨rfl, (xb.trans e1).trans e2⟩

/-! Slices of such values. -/
def InPlaceF (w : World) (a : Option Addr) (n : Nat) (xs : List PlaceV) (f : Nat → Ref) : Prop := xs.length = n ∧ n ≤ 9223372036854775807 ∧ Rd w a ((raws xs f).flatMap layPlace.cells) ∧ ∀ k, k < n → NamesIn w (f k) (nthPlace xs k)
def totPlace (xs : List PlaceV) : Nat := (xs.map sizePlace).sum
theorem totPlace_take {xs : List PlaceV} {k : Nat} (hk : k < xs.length) : totPlace (xs.take (k + 1)) = totPlace (xs.take k) + sizePlace (nthPlace xs k) := by
  rw [totPlace, totPlace, List.take_succ_eq_append_getElem hk, List.map_append, List.sum_append, nthPlace_eq hk]
  simp
theorem totPlace_le {xs : List PlaceV} {x : PlaceV} (h : x ∈ xs) : sizePlace x ≤ totPlace xs := by
  induction xs with
  | nil => simp at h
  | cons y ys ih =>
    rw [totPlace, List.map_cons, List.sum_cons]
    rcases List.mem_cons.1 h with rfl | h
    · omega
    · have := ih h
      rw [totPlace] at this
      omega
theorem InPlaceF.ext {w w' : World} {a : Option Addr} {n : Nat} {xs : List PlaceV} {f : Nat → Ref} (h : InPlaceF w a n xs f) (x : Ext w w') : InPlaceF w' a n xs f := ⟨h.1, h.2.1, h.2.2.1.ext x, fun k hk => (h.2.2.2 k hk).ext x⟩
theorem InPlaceF.at {w : World} {a : Option Addr} {n : Nat} {xs : List PlaceV} {f : Nat → Ref} (h : InPlaceF w a n xs f) (hn : 0 < n) :
    ∃ b o, a = some ⟨b, o, none⟩ ∧ b < w.heap.size ∧ ∀ k, k < n → w.cell? ⟨b, o + k * 5, none⟩ = some (.string (nthPlace xs k).code) ∧ w.cell? ⟨b, o + k * 5 + 1, none⟩ = some (.int .i64 (nthPlace xs k).klass) ∧ w.cell? ⟨b, o + k * 5 + 2, none⟩ = some (.int .i64 (nthPlace xs k).from_) ∧ w.cell? ⟨b, o + k * 5 + 3, none⟩ = some (.int .i64 (nthPlace xs k).to_) ∧ w.cell? ⟨b, o + k * 5 + 4, none⟩ = some (.slice (f k).a (f k).n (f k).c) := by
  have hl := h.1
  obtain ⟨b, o, ha, hb, hc⟩ := h.2.2.1.pos (by rw [flat_len, raws_len, hl]; exact Nat.mul_pos hn (by decide))
  refine ⟨b, o, ha, hb, fun k hk => place_cells (fun k x hx j u hu => hc _ u ?_) (by omega)⟩
  have := flat_get layPlace (raws xs f) k j x hx (by have := (List.getElem?_eq_some_iff.1 hu).1; rwa [layPlace.len] at this)
  exact this.trans hu
/-- What counting leaves. -/
theorem leftPlace_rdF {w : World} {a : Option Addr} {n : Nat} {xs : List PlaceV} {f : Nat → Ref} {left r : Int} (h : InPlaceF w a n xs f) (hl : Left n (totPlace xs) left r) (h0 : 0 ≤ r) (h1 : left ≤ 1048576) : RdPlaceF w a n xs f := by
  have := hl.1 h0
  refine ⟨⟨by rw [raws_len]; exact h.1, by omega, h.2.2.1⟩, fun k hk => ?_⟩
  have h2 := totPlace_le (nthPlace_mem (xs := xs) (k := k) (by rw [h.1]; exact hk))
  exact left_namesAt (left := sizePlace (nthPlace xs k)) (z := 0) (h.2.2.2 k hk) ⟨fun _ => by omega, fun h => by omega⟩ (Int.le_refl _) (by omega)

/-! Without the places of the names. -/
def RdPlace (w : World) (a : Option Addr) (n : Nat) (xs : List PlaceV) : Prop := ∃ f, RdPlaceF w a n xs f
theorem RdPlace.ext {w w' : World} {a : Option Addr} {n : Nat} {xs : List PlaceV} (h : RdPlace w a n xs) (x : Ext w w') : RdPlace w' a n xs := h.elim fun f h => ⟨f, h.ext x⟩
theorem RdPlace.len {w : World} {a : Option Addr} {n : Nat} {xs : List PlaceV} (h : RdPlace w a n xs) : xs.length = n := h.elim fun _ h => h.len
theorem RdPlace.le {w : World} {a : Option Addr} {n : Nat} {xs : List PlaceV} (h : RdPlace w a n xs) : n ≤ 4294967296 := h.elim fun _ h => h.le
def OwnPlace (w : World) (B : Nat) (a : Option Addr) (n c : Nat) (xs : List PlaceV) : Prop := ∃ f, OwnPlaceF w B a n c xs f
theorem OwnPlace.rd {w : World} {B n c : Nat} {a : Option Addr} {xs : List PlaceV} (h : OwnPlace w B a n c xs) : RdPlace w a n xs := h.elim fun f h => ⟨f, h.rd⟩
theorem OwnPlace.ext {w w' : World} {B n c : Nat} {a : Option Addr} {xs : List PlaceV} (h : OwnPlace w B a n c xs) (x : Ext w w') : OwnPlace w' B a n c xs := h.elim fun f h => ⟨f, h.ext x⟩
theorem OwnPlace.cap {w : World} {B n c : Nat} {a : Option Addr} {xs : List PlaceV} (h : OwnPlace w B a n c xs) : n ≤ c := h.elim fun _ h => h.cap
def NewPlace (w w' : World) (xs : List PlaceV) (v : Value) : Prop := ∃ a n c, v = .slice a n c ∧ OwnPlace w' w.heap.size a n c xs ∧ Ext w w'
def InPlace (w : World) (a : Option Addr) (n : Nat) (xs : List PlaceV) : Prop := ∃ f, InPlaceF w a n xs f
theorem InPlace.ext {w w' : World} {a : Option Addr} {n : Nat} {xs : List PlaceV} (h : InPlace w a n xs) (x : Ext w w') : InPlace w' a n xs := h.elim fun f h => ⟨f, h.ext x⟩
theorem leftPlace_rd {w : World} {a : Option Addr} {n : Nat} {xs : List PlaceV} {left r : Int} (h : InPlace w a n xs) (hl : Left n (totPlace xs) left r) (h0 : 0 ≤ r) (h1 : left ≤ 1048576) : RdPlace w a n xs := h.elim fun f h => ⟨f, leftPlace_rdF h hl h0 h1⟩
def namesN (xs : List PlaceV) : Nat := (xs.map fun x => x.names.length).sum
theorem names_tot (xs : List PlaceV) : namesN xs ≤ totPlace xs := by
  induction xs with
  | nil => exact Nat.le_refl _
  | cons x xs ih =>
    rw [namesN, totPlace] at *
    simp only [List.map_cons, List.sum_cons]
    unfold sizePlace at *
    omega

set_option maxHeartbeats 400000 in
theorem szPlaceS_any (a : Option Addr) (n c : Nat) (left : Int) (xs : List PlaceV) (w : World) (hr : InPlace w a n xs) (h0 : 0 ≤ left) (h1 : left ≤ 1048576) :
    Calls Tryz.prog 7 #[.slice a n c, .int .i64 left] w fun e w' => ∃ r, e = .returned (.int .i64 r) ∧ Left n (totPlace xs) left r ∧ Ext w w' := by
  obtain ⟨f, hr⟩ := hr
  have hm := hr.2.1
  by_cases hbig : left < n
  · go_enter Tryz.func7, Tryz.ntmps7
    go_wp2
    go_ret
    exact ⟨-1, rfl, ⟨by omega, fun _ => rfl⟩, Ext.refl _⟩
  · go_enter Tryz.func7, Tryz.ntmps7
    go_wp2
    go_loopw [1, 5] (fun u i wr => ∃ (k : Nat) (r : Int), k ≤ n ∧ i = .int .i64 k ∧ u = .int .i64 r ∧ 0 ≤ r ∧ (n : Int) + totPlace (xs.take k) + r = left ∧ Ext w wr) (fun _ i _ => n - (intOf i).toNat)
    case atStart => exact ⟨0, left - n, Nat.zero_le _, rfl, rfl, by omega, by simp [totPlace]; omega, Ext.refl _⟩
    case round =>
      obtain ⟨k, r, hk, rfl, rfl, hr0, hsum, hx⟩ := hrel
      have HS := Lib.hid hsum
      have hrl : r ≤ 1048576 := by omega
      clear hsum
      by_cases hlt : k < n
      · obtain ⟨b, o, rfl, hbl, hc⟩ := (hr.ext hx).at (by omega)
        obtain ⟨hc0, hc1, hc2, hc3, hc4⟩ := hc k hlt
        have hok := (hr.ext hx).2.2.2 k hlt
        have htk := totPlace_take (xs := xs) (k := k) (by rw [hr.1]; exact hlt)
        have HT := Lib.hid htk
        clear hc htk
        go_wp2_with fail
        refine (szPlace_any (nthPlace xs k) (f k) r _ hok (by omega) (by omega)).mono ?_
        rintro e w1 ⟨r1, rfl, hl1, hx1⟩
        by_cases hneg : r1 < 0
        · go_wp2
          go_ret
          exact ⟨-1, rfl, ⟨by omega, fun _ => rfl⟩, hx.trans hx1⟩
        · go_wp2
          go_roundw
          case rel =>
            have h1 := HS.out
            have h2 := hl1.1 (by omega)
            exact ⟨k + 1, _, by omega, by go_num, rfl, by omega, by rw [HT.out]; omega, hx.trans hx1⟩
          case measure => simp [intOf]; omega
      · obtain rfl : k = n := by omega
        go_wp2
        go_ret
        refine ⟨r, rfl, ⟨fun _ => ?_, by omega⟩, hx⟩
        have := HS.out
        rwa [List.take_of_length_le (by rw [hr.1]; exact Nat.le_refl _)] at this

set_option maxRecDepth 100000 in
set_option maxHeartbeats 400000 in
theorem eqPlaceS_same (a b : Option Addr) (n c c' : Nat) (xs : List PlaceV) (w : World) (ha : RdPlace w a n xs) (hb : RdPlace w b n xs) :
    Calls Tryz.prog 12 #[.slice a n c, .slice b n c'] w fun e w' => e = .returned (.bool true) ∧ Ext w w' := by
  obtain ⟨f, ha⟩ := ha
  obtain ⟨g, hb⟩ := hb
  have hm := ha.le
  go_enter Tryz.func12, Tryz.ntmps12
  go_wp2
  go_loopw [5] (fun i wr => ∃ k : Nat, k ≤ n ∧ i = .int .i64 k ∧ Ext w wr) (fun i _ => n - (intOf i).toNat)
  case atStart => exact ⟨0, Nat.zero_le _, rfl, Ext.refl _⟩
  case round =>
    obtain ⟨k, hk, rfl, hx⟩ := hrel
    by_cases hlt : k < n
    · obtain ⟨b1, o1, rfl, hbl1, hA⟩ := (ha.ext hx).at (by omega)
      obtain ⟨b2, o2, rfl, hbl2, hB⟩ := (hb.ext hx).at (by omega)
      obtain ⟨hc0, hc1, hc2, hc3, hc4⟩ := hA k hlt
      obtain ⟨hd0, hd1, hd2, hd3, hd4⟩ := hB k hlt
      have hna := (ha.ext hx).2 k hlt
      have hnb := (hb.ext hx).2 k hlt
      clear hA hB
      have hki : (k : Int) < n := by omega
      go_wp2
      go_still_tail 8, (by kernel_rfl)
      go_wp2_with fail
      refine (eqPlace_same (nthPlace xs k) (f k) (g k) _ (hna.ext (Ext.refl _).drew) (hnb.ext (Ext.refl _).drew)).mono ?_
      rintro e w1 ⟨rfl, hx1⟩
      go_wp2
      go_roundw
      case rel => exact ⟨k + 1, by omega, by go_num, hx.drew.trans hx1⟩
      case measure => simp [intOf]; omega
    · obtain rfl : k = n := by omega
      go_wp2
      go_ret
      exact ⟨rfl, hx⟩

theorem take_setPlace (ys : List PlaceR) (x : PlaceV) (r : Ref) (k n : Nat) (zs : List Value) (hn : ys.length = k) (h : k < n) (hz : zs.length = 5) :
    ((((((ys.flatMap layPlace.cells ++ (List.replicate (n - k) zs).flatten).set (k * 5) (.string x.code)).set (k * 5 + 1) (.int .i64 x.klass)).set (k * 5 + 2) (.int .i64 x.from_)).set (k * 5 + 3) (.int .i64 x.to_)).set (k * 5 + 4) (.slice r.a r.n r.c)) = (ys ++ [rawP x r]).flatMap layPlace.cells ++ (List.replicate (n - (k + 1)) zs).flatten := by
  subst hn
  have e : n - ys.length = (n - (ys.length + 1)) + 1 := by omega
  rw [e, List.replicate_succ, List.flatten_cons]
  have hl : (ys.flatMap layPlace.cells).length = ys.length * 5 := by rw [flat_len]; rfl
  match zs, hz with
  | [z0, z1, z2, z3, z4], _ =>
    simp only [List.cons_append, List.nil_append]
    repeat rw [List.set_append_right _ _ (by omega), hl]
    rw [List.flatMap_append, List.append_assoc]
    simp [layPlace, rawP]

theorem Tryz.info_Place : (Tryz.prog.info? 68).map (fun i => (i.zero, i.size, i.bytes)) = some (some (.agg #[.string ⟨#[]⟩, .int .i64 0, .int .i64 0, .int .i64 0, .slice none 0 0]), 5, 64) := by kernel_rfl

set_option maxRecDepth 100000 in
set_option maxHeartbeats 1000000 in
theorem toPlaceS_any (a : Option Addr) (n c : Nat) (xs : List PlaceV) (w : World) (hr : RdPlace w a n xs) :
    Calls Tryz.prog 9 #[.slice a n c] w fun e w' => ∃ v, e = .returned v ∧ NewPlace w w' xs v := by
  obtain ⟨f, hr⟩ := hr
  obtain ⟨i, hi, hz0, hz1, hz2⟩ := info_parts Tryz.info_Place
  have hm := hr.le
  have hln := hr.len
  go_enter Tryz.func9, Tryz.ntmps9
  go_wp2_with (first | (at_make; refine wpList_make_full _ rfl _ _ 27 rfl w.heap.size 68 i (.agg #[.string ⟨#[]⟩, .int .i64 0, .int .i64 0, .int .i64 0, .slice none 0 0]) 5 Tryz.underlying27 hi hz0 hz1 _ _ _ _ n rfl rfl rfl rfl (by rw [hz2]; omega) (by simp [maxLen]; omega) (Nat.le_refl _) ?_; intro w1 hown hgrow))
  go_loopw [4] (fun i wr => ∃ (k : Nat) (g : Nat → Ref) (bs : Nat → Nat), k ≤ n ∧ i = .int .i64 k ∧ wr.ownsRow w.heap.size 68 5 (.slice (some ⟨w.heap.size, 0, none⟩) n n) n ((rawsK xs g k).flatMap layPlace.cells ++ (List.replicate (n - k) [.string ⟨#[]⟩, .int .i64 0, .int .i64 0, .int .i64 0, .slice none 0 0]).flatten) ∧ w.heap.size < bs 0 ∧ bs k ≤ wr.heap.size ∧ NamesOwn wr bs xs g k ∧ Ext w wr) (fun i _ => n - (intOf i).toNat)
  case atStart => exact ⟨0, fun _ => ⟨none, 0, 0⟩, fun _ => w1.heap.size, Nat.zero_le _, rfl, by have e := made_rep (.agg #[.string ⟨#[]⟩, .int .i64 0, .int .i64 0, .int .i64 0, .slice none 0 0]) 5 n rfl (by decide); rw [e] at hown; simpa [Value.cells, rawsK] using hown, (hown.lt _ rfl).2, Nat.le_refl _, fun i hi => absurd hi (Nat.not_lt_zero _), (Ext.refl _).grown0 hgrow⟩
  case round =>
    obtain ⟨k, g, bs, hk, rfl, ho, hb0, hbk, hN, hb⟩ := hrel
    by_cases hlt : k < n
    · obtain ⟨b, o, rfl, hbl, hA⟩ := (hr.ext hb).at (by omega)
      obtain ⟨hc0, hc1, hc2, hc3, hc4⟩ := hA k hlt
      have hna := (hr.ext hb).2 k hlt
      clear hA
      go_wp2_with fail
      refine (toPlace_any (nthPlace xs k) (f k) _ hna).mono ?_
      rintro e w1 ⟨⟨qa, qn, qc⟩, rfl, hrn, hor, hx1⟩
      simp only at hrn hor
      subst hrn
      rw [valPlace]
      have ho1 := own_ext ho hx1
      have hf0 := ho1.frozenAt (k * 5)
      obtain ⟨u0, hw0⟩ := own_oldG ho1 (k * 5) (by omega)
      have hs0 := (ho1.stored (k * 5) (.string (nthPlace xs k).code)).1
      have hf1 := ho1.frozenAt (k * 5 + 1)
      obtain ⟨u1, hw1⟩ := own_oldG ho1 (k * 5 + 1) (by omega)
      have hs1 := (hs0.stored (k * 5 + 1) (.int .i64 (nthPlace xs k).klass)).1
      have hf2 := ho1.frozenAt (k * 5 + 2)
      obtain ⟨u2, hw2⟩ := own_oldG ho1 (k * 5 + 2) (by omega)
      have hs2 := (hs1.stored (k * 5 + 2) (.int .i64 (nthPlace xs k).from_)).1
      have hf3 := ho1.frozenAt (k * 5 + 3)
      obtain ⟨u3, hw3⟩ := own_oldG ho1 (k * 5 + 3) (by omega)
      have hs3 := (hs2.stored (k * 5 + 3) (.int .i64 (nthPlace xs k).to_)).1
      have hf4 := ho1.frozenAt (k * 5 + 4)
      obtain ⟨u4, hw4⟩ := own_oldG ho1 (k * 5 + 4) (by omega)
      have hs4 := (hs3.stored (k * 5 + 4) (.slice qa (f k).n qc)).1
      have hset := take_setPlace (rawsK xs g k) (nthPlace xs k) ⟨qa, (f k).n, qc⟩ k n [.string ⟨#[]⟩, .int .i64 0, .int .i64 0, .int .i64 0, .slice none 0 0] (rawsK_len _ _ _) hlt rfl
      have hwr : Wrote w1 ((((((w1.setCell ⟨w.heap.size, k * 5, none⟩ (.string (nthPlace xs k).code)).setCell ⟨w.heap.size, k * 5 + 1, none⟩ (.int .i64 (nthPlace xs k).klass)).setCell ⟨w.heap.size, k * 5 + 2, none⟩ (.int .i64 (nthPlace xs k).from_)).setCell ⟨w.heap.size, k * 5 + 3, none⟩ (.int .i64 (nthPlace xs k).to_)).setCell ⟨w.heap.size, k * 5 + 4, none⟩ (.slice qa (f k).n qc))) (some ⟨w.heap.size, 0, none⟩) := (((((Wrote.refl w1 (some ⟨w.heap.size, 0, none⟩)).setCell (k * 5) _).setCell (k * 5 + 1) _).setCell (k * 5 + 2) _).setCell (k * 5 + 3) _).setCell (k * 5 + 4) _
      have hsz1 := hx1.size
      have hN1 : NamesOwn w1 (upd bs (k + 1) w1.heap.size) xs (upd g k ⟨qa, (f k).n, qc⟩) (k + 1) := by
        intro i hi
        by_cases e : i = k
        · subst e
          rw [upd_at, upd_at, upd_ne _ _ (by omega)]
          exact ⟨by omega, ⟨hor.mono hbk, fun g hg => (hor.1.1.lt g (by rw [show qa = some ⟨g, 0, none⟩ from hg]; rfl)).2, hna.2.2.1, hna.2.2.2⟩⟩
        · rw [upd_ne _ _ (show i ≠ k + 1 by omega), upd_ne g _ e, upd_ne _ _ (show i + 1 ≠ k + 1 by omega)]
          exact (hN.ext hx1) i (by omega)
      have HS := Lib.hid (And.intro hset (And.intro hs4 (And.intro hwr (And.intro hN1 (((((((hb.trans hx1).setCell (p := ⟨w.heap.size, k * 5, none⟩) (Nat.le_refl _) (.string (nthPlace xs k).code)).setCell (p := ⟨w.heap.size, k * 5 + 1, none⟩) (Nat.le_refl _) (.int .i64 (nthPlace xs k).klass)).setCell (p := ⟨w.heap.size, k * 5 + 2, none⟩) (Nat.le_refl _) (.int .i64 (nthPlace xs k).from_)).setCell (p := ⟨w.heap.size, k * 5 + 3, none⟩) (Nat.le_refl _) (.int .i64 (nthPlace xs k).to_)).setCell (p := ⟨w.heap.size, k * 5 + 4, none⟩) (Nat.le_refl _) (.slice qa (f k).n qc)))))))
      have HO := Lib.hid ho1
      clear hset hs0 hs1 hs2 hs3 hs4 ho hb hwr hN1 hN hor ho1
      go_wp2
      go_roundw
      case rel =>
        refine ⟨k + 1, upd g k ⟨qa, (f k).n, qc⟩, upd bs (k + 1) w1.heap.size, by omega, by go_num, by rw [rawsK_upd, ← HS.out.1]; exact HS.out.2.1, by rw [upd_ne _ _ (by omega)]; exact hb0, by rw [upd_at]; simp, fun i hi => ?_, HS.out.2.2.2.2⟩
        obtain ⟨p1, p2, p3⟩ := HS.out.2.2.2.1 i hi
        have hB : w.heap.size < upd bs (k + 1) w1.heap.size i := by
          have := HS.out.2.2.2.1.mono i (by omega)
          rw [upd_ne bs _ (show (0 : Nat) ≠ k + 1 by omega)] at this
          omega
        exact ⟨p1, ⟨⟨HS.out.2.2.1.above p2.1.1 (fun g e => by cases e; exact hB), p2.1.2⟩, p2.2⟩, p3⟩
      case measure => simp [intOf]; omega
    · obtain rfl : k = n := by omega
      have HS := Lib.hid (And.intro ho hb)
      have HN := Lib.hid hN
      clear ho hb hN
      go_wp2
      go_ret
      refine ⟨_, rfl, _, _, _, rfl, ⟨g, ⟨⟨?_, hm⟩, bs, by omega, fun g hg => by cases hg; exact hb0, HN.out⟩⟩, HS.out.2⟩
      have h := HS.out.1
      rw [Nat.sub_self, List.replicate_zero, List.flatten_nil, List.append_nil] at h
      rw [raws_K, hln]
      exact h

end Go.Proofs.YtdacmbclkpgngaaGreatDoor
