/-
  Place: how it lies (its names in a slice of their own); the statements' own helpers on such values and slices of them.
-/
import Derived.Test.YtjelmidkkpchkaaGreatDoorNName
import Derived.StillTailTactics
namespace Go.Proofs.YtjelmidkkpchkaaGreatDoor
open Go.RowKit

/-- A place with its names. -/
structure PlaceV where
  code : ByteArray
  klass : Int
  from_ : Int
  to_ : Int
  names : List NameV
/-- Where names lie. -/
structure Ref where
  a : Option Addr
  n : Nat
  c : Nat
/-- A place as it lies. -/
structure PlaceR where
  code : ByteArray
  klass : Int
  from_ : Int
  to_ : Int
  r : Ref
def rawP (x : PlaceV) (r : Ref) : PlaceR := ⟨x.code, x.klass, x.from_, x.to_, r⟩
def valPlace (x : PlaceV) (r : Ref) : Value := .agg #[.string x.code, .int .i64 x.klass, .int .i64 x.from_, .int .i64 x.to_, .slice r.a r.n r.c]
def layPlace : Lay PlaceR where
  cells x := [.string x.code, .int .i64 x.klass, .int .i64 x.from_, .int .i64 x.to_, .slice x.r.a x.r.n x.r.c]
  sz := 5
  len _ := rfl
  one _ u hu := by simp at hu; rcases hu with rfl | rfl | rfl | rfl | rfl <;> rfl
  pos := by decide
def nthPlace (xs : List PlaceV) (k : Nat) : PlaceV := xs.getD k ⟨ByteArray.empty, 0, 0, 0, []⟩
theorem nthPlace_eq {xs : List PlaceV} {k : Nat} (h : k < xs.length) : nthPlace xs k = xs[k] := by simp [nthPlace, h]
theorem nthPlace_mem {xs : List PlaceV} {k : Nat} (h : k < xs.length) : nthPlace xs k ∈ xs := by rw [nthPlace_eq h]; exact List.getElem_mem h
def raws (xs : List PlaceV) (f : Nat → Ref) : List PlaceR := (List.range xs.length).map fun k => rawP (nthPlace xs k) (f k)
theorem raws_len (xs : List PlaceV) (f : Nat → Ref) : (raws xs f).length = xs.length := by simp [raws]
theorem raws_get {xs : List PlaceV} {f : Nat → Ref} {k : Nat} (h : k < xs.length) : (raws xs f)[k]? = some (rawP (nthPlace xs k) (f k)) := by simp [raws, h]
/-- The names of a place read so. -/
def NamesAt (w : World) (r : Ref) (x : PlaceV) : Prop := RdName w r.a r.n x.names ∧ r.n ≤ r.c ∧ x.code.size ≤ 1073741824 ∧ r.n ≤ 1048576
theorem NamesAt.ext {w w' : World} {r : Ref} {x : PlaceV} (h : NamesAt w r x) (e : Ext w w') : NamesAt w' r x := ⟨h.1.ext e, h.2⟩
def RdPlaceF (w : World) (a : Option Addr) (n : Nat) (xs : List PlaceV) (f : Nat → Ref) : Prop := RdG layPlace w a n (raws xs f) ∧ ∀ k, k < n → NamesAt w (f k) (nthPlace xs k)
theorem RdPlaceF.ext {w w' : World} {a : Option Addr} {n : Nat} {xs : List PlaceV} {f : Nat → Ref} (h : RdPlaceF w a n xs f) (x : Ext w w') : RdPlaceF w' a n xs f := ⟨h.1.ext x, fun k hk => (h.2 k hk).ext x⟩
theorem RdPlaceF.len {w : World} {a : Option Addr} {n : Nat} {xs : List PlaceV} {f : Nat → Ref} (h : RdPlaceF w a n xs f) : xs.length = n := by rw [← raws_len xs f]; exact h.1.len
theorem RdPlaceF.le {w : World} {a : Option Addr} {n : Nat} {xs : List PlaceV} {f : Nat → Ref} (h : RdPlaceF w a n xs f) : n ≤ 4294967296 := h.1.le
theorem place_cells {w : World} {b o : Nat} {xs : List PlaceV} {f : Nat → Ref} (hc : ∀ k x, (raws xs f)[k]? = some x → ∀ j u, (layPlace.cells x)[j]? = some u → w.cell? ⟨b, o + (k * 5 + j), none⟩ = some u) {k : Nat} (hk : k < xs.length) :
    w.cell? ⟨b, o + k * 5, none⟩ = some (.string (nthPlace xs k).code) ∧ w.cell? ⟨b, o + k * 5 + 1, none⟩ = some (.int .i64 (nthPlace xs k).klass) ∧ w.cell? ⟨b, o + k * 5 + 2, none⟩ = some (.int .i64 (nthPlace xs k).from_) ∧ w.cell? ⟨b, o + k * 5 + 3, none⟩ = some (.int .i64 (nthPlace xs k).to_) ∧ w.cell? ⟨b, o + k * 5 + 4, none⟩ = some (.slice (f k).a (f k).n (f k).c) :=
  ⟨hc k _ (raws_get hk) 0 _ rfl, by rw [Nat.add_assoc]; exact hc k _ (raws_get hk) 1 _ rfl, by rw [Nat.add_assoc]; exact hc k _ (raws_get hk) 2 _ rfl, by rw [Nat.add_assoc]; exact hc k _ (raws_get hk) 3 _ rfl, by rw [Nat.add_assoc]; exact hc k _ (raws_get hk) 4 _ rfl⟩
theorem RdPlaceF.at {w : World} {a : Option Addr} {n : Nat} {xs : List PlaceV} {f : Nat → Ref} (h : RdPlaceF w a n xs f) (hn : 0 < n) :
    ∃ b o, a = some ⟨b, o, none⟩ ∧ b < w.heap.size ∧ ∀ k, k < n → w.cell? ⟨b, o + k * 5, none⟩ = some (.string (nthPlace xs k).code) ∧ w.cell? ⟨b, o + k * 5 + 1, none⟩ = some (.int .i64 (nthPlace xs k).klass) ∧ w.cell? ⟨b, o + k * 5 + 2, none⟩ = some (.int .i64 (nthPlace xs k).from_) ∧ w.cell? ⟨b, o + k * 5 + 3, none⟩ = some (.int .i64 (nthPlace xs k).to_) ∧ w.cell? ⟨b, o + k * 5 + 4, none⟩ = some (.slice (f k).a (f k).n (f k).c) := by
  obtain ⟨b, o, ha, hb, hc⟩ := h.1.at hn
  have hl := h.len
  exact ⟨b, o, ha, hb, fun k hk => place_cells hc (by omega)⟩
def rawsK (xs : List PlaceV) (f : Nat → Ref) (k : Nat) : List PlaceR := (List.range k).map fun i => rawP (nthPlace xs i) (f i)
theorem raws_K (xs : List PlaceV) (f : Nat → Ref) : raws xs f = rawsK xs f xs.length := rfl
theorem rawsK_len (xs : List PlaceV) (f : Nat → Ref) (k : Nat) : (rawsK xs f k).length = k := by simp [rawsK]
def upd {α : Type} (f : Nat → α) (k : Nat) (r : α) : Nat → α := fun i => if i = k then r else f i
theorem upd_at {α : Type} (f : Nat → α) (k : Nat) (r : α) : upd f k r k = r := by simp [upd]
theorem upd_ne {α : Type} (f : Nat → α) {k i : Nat} (r : α) (h : i ≠ k) : upd f k r i = f i := by simp [upd, h]
theorem rawsK_upd (xs : List PlaceV) (f : Nat → Ref) (k : Nat) (r : Ref) : rawsK xs (upd f k r) (k + 1) = rawsK xs f k ++ [rawP (nthPlace xs k) r] := by
  rw [rawsK, List.range_succ, List.map_append, rawsK]
  congr 1
  · refine List.map_congr_left fun i hi => ?_
    rw [upd_ne _ _ (by have := List.mem_range.1 hi; omega)]
  · simp [upd]
/-- The names of the first k, each in blocks of its own: those of place i between bs i and bs (i + 1). -/
def NamesOwn (w : World) (bs : Nat → Nat) (xs : List PlaceV) (f : Nat → Ref) (k : Nat) : Prop :=
  ∀ i, i < k → bs i ≤ bs (i + 1) ∧ OwnName w (bs i) (f i).a (f i).n (f i).c (nthPlace xs i).names ∧ (∀ g, (f i).a = some ⟨g, 0, none⟩ → g < bs (i + 1)) ∧ (nthPlace xs i).code.size ≤ 1073741824 ∧ (f i).n ≤ 1048576
/-- What a call has made: the row, and the names of each, in blocks from B on. -/
def OwnPlaceF (w : World) (B : Nat) (a : Option Addr) (n c : Nat) (xs : List PlaceV) (f : Nat → Ref) : Prop :=
  OwnG layPlace 67 w B a n c (raws xs f) ∧ ∃ bs : Nat → Nat, B ≤ bs 0 ∧ (∀ g, a = some ⟨g, 0, none⟩ → g < bs 0) ∧ NamesOwn w bs xs f n
theorem NamesOwn.mono {w : World} {bs : Nat → Nat} {xs : List PlaceV} {f : Nat → Ref} {k : Nat} (h : NamesOwn w bs xs f k) : ∀ i, i ≤ k → bs 0 ≤ bs i := by
  intro i
  induction i with
  | zero => intro _; exact Nat.le_refl _
  | succ i ih => intro hi; exact Nat.le_trans (ih (by omega)) (h i (by omega)).1
/-- What lies behind a block stays owned when that block alone is written. -/
theorem Wrote.above {w w' : World} {B' e' sz' n' c' m' : Nat} {a a' : Option Addr} {ys : List Value} (h : Wrote w w' a) (ho : w.ownsRow B' e' sz' (.slice a' n' c') m' ys) (hB : ∀ g, a = some g → g.block < B') : w'.ownsRow B' e' sz' (.slice a' n' c') m' ys := by
  refine ⟨ho.1, ?_⟩
  rcases ho.2 with hn | ⟨g2, cap, cur, hv, hbg, hgg, rest⟩
  · exact .inl hn
  · refine .inr ⟨g2, cap, cur, hv, hbg, ?_, rest⟩
    rw [h.block g2 (Array.getElem?_eq_some_iff.1 hgg).1 fun g' e => by have := hB g' e; omega]
    exact hgg
/-- What lies ahead of a block does too. -/
theorem Wrote.ahead {w w' : World} {e' sz' n' c' m' B' : Nat} {a a' : Option Addr} {ys : List Value} (h : Wrote w w' a) (ho : w.ownsRow B' e' sz' (.slice a' n' c') m' ys) (hB : ∀ g2 g, a' = some g2 → a = some g → g2.block < g.block) : w'.ownsRow B' e' sz' (.slice a' n' c') m' ys := by
  refine ⟨ho.1, ?_⟩
  rcases ho.2 with hn | ⟨g2, cap, cur, hv, hbg, hgg, rest⟩
  · exact .inl hn
  · refine .inr ⟨g2, cap, cur, hv, hbg, ?_, rest⟩
    cases hv
    rw [h.block g2 (Array.getElem?_eq_some_iff.1 hgg).1 fun g' e => by have := hB _ g' rfl e; exact Nat.ne_of_lt this]
    exact hgg
theorem NamesOwn.ext {w w' : World} {bs : Nat → Nat} {xs : List PlaceV} {f : Nat → Ref} {k : Nat} (h : NamesOwn w bs xs f k) (x : Ext w w') : NamesOwn w' bs xs f k := fun i hi => ⟨(h i hi).1, (h i hi).2.1.ext x, (h i hi).2.2⟩
theorem OwnPlaceF.ext {w w' : World} {B n c : Nat} {a : Option Addr} {xs : List PlaceV} {f : Nat → Ref} (h : OwnPlaceF w B a n c xs f) (x : Ext w w') : OwnPlaceF w' B a n c xs f := by
  obtain ⟨h1, bs, h2, h3, h4⟩ := h
  exact ⟨h1.ext x, bs, h2, h3, h4.ext x⟩
theorem OwnPlaceF.rd {w : World} {B n c : Nat} {a : Option Addr} {xs : List PlaceV} {f : Nat → Ref} (h : OwnPlaceF w B a n c xs f) : RdPlaceF w a n xs f := by
  obtain ⟨h1, bs, h2, h3, h4⟩ := h
  exact ⟨h1.rd, fun k hk => ⟨(h4 k hk).2.1.rd, (h4 k hk).2.1.cap, (h4 k hk).2.2.2⟩⟩
theorem OwnPlaceF.cap {w : World} {B n c : Nat} {a : Option Addr} {xs : List PlaceV} {f : Nat → Ref} (h : OwnPlaceF w B a n c xs f) : n ≤ c := by
  rcases h.1.1.2 with ⟨h1, h2⟩ | ⟨g, cap, cur, hv, _, _, hc, _⟩
  · omega
  · cases hv; exact hc

theorem OwnName.low {w : World} {B n c : Nat} {a : Option Addr} {xs : List NameV} (h : OwnName w B a n c xs) (b j : Nat) (u : Value) (hb : b < B) : OwnName (w.setCell ⟨b, j, none⟩ u) B a n c xs :=
  ⟨⟨Wrote.above ((Wrote.refl w (some ⟨b, 0, none⟩)).setCell j u) h.1.1 (fun g e => by cases e; exact hb), h.1.2⟩, h.2⟩
theorem cell_set_off (w : World) (b i j : Nat) (v : Value) (h : i ≠ j) : (w.setCell ⟨b, i, none⟩ v).cell? ⟨b, j, none⟩ = w.cell? ⟨b, j, none⟩ := World.cell?_setCell_other _ _ _ _ (fun e => h (congrArg Addr.off e))
theorem cell_set_far (w : World) (b b' i j : Nat) (v : Value) (h : b ≠ b') : (w.setCell ⟨b, i, none⟩ v).cell? ⟨b', j, none⟩ = w.cell? ⟨b', j, none⟩ := World.cell?_setCell_other _ _ _ _ (fun e => h (congrArg Addr.block e))
theorem cell_set_at {w : World} {b i : Nat} {u : Value} (v : Value) (h : w.cell? ⟨b, i, none⟩ = some u) : (w.setCell ⟨b, i, none⟩ v).cell? ⟨b, i, none⟩ = some v := World.cell?_setCell_same _ _ _ h
/-! The values. -/
/-- One that came in. -/
def NamesIn (w : World) (r : Ref) (x : PlaceV) : Prop := InName w r.a r.n x.names ∧ r.n ≤ r.c ∧ x.code.size ≤ 9223372036854775807
theorem NamesIn.ext {w w' : World} {r : Ref} {x : PlaceV} (h : NamesIn w r x) (e : Ext w w') : NamesIn w' r x := ⟨h.1.ext e, h.2⟩
def sizePlace (x : PlaceV) : Nat := x.code.size + (x.names.length + totName x.names)

theorem left_namesAt {w : World} {x : PlaceV} {r : Ref} {left z : Int} (hx : NamesIn w r x) (h : leftName (sizePlace x) left z) (h0 : 0 ≤ z) (h1 : left ≤ 1048576) : NamesAt w r x := by
  have := h.1 h0
  unfold sizePlace at this
  have hl := hx.1.1
  refine ⟨hx.1.rd (by omega) fun y hy => ?_, hx.2.1, by omega, by omega⟩
  have h2 := totName_le hy
  unfold sizeName at h2
  unfold okName
  omega

/-! Slices of such values. -/
def InPlaceF (w : World) (a : Option Addr) (n : Nat) (xs : List PlaceV) (f : Nat → Ref) : Prop := xs.length = n ∧ n ≤ 9223372036854775807 ∧ Rd w a ((raws xs f).flatMap layPlace.cells) ∧ ∀ k, k < n → NamesIn w (f k) (nthPlace xs k)
def totPlace (xs : List PlaceV) : Nat := (xs.map sizePlace).sum
theorem totPlace_take {xs : List PlaceV} {k : Nat} (hk : k < xs.length) : totPlace (xs.take (k + 1)) = totPlace (xs.take k) + sizePlace (nthPlace xs k) := by
  rw [totPlace, totPlace, List.take_succ_eq_append_getElem hk, List.map_append, List.sum_append, nthPlace_eq hk]
  simp
theorem totPlace_le {xs : List PlaceV} {x : PlaceV} (h : x ∈ xs) : sizePlace x ≤ totPlace xs := by
  induction xs with
  | nil => simp at h
  | cons y ys ih =>
    rw [totPlace, List.map_cons, List.sum_cons]
    rcases List.mem_cons.1 h with rfl | h
    · omega
    · have := ih h
      rw [totPlace] at this
      omega
theorem InPlaceF.ext {w w' : World} {a : Option Addr} {n : Nat} {xs : List PlaceV} {f : Nat → Ref} (h : InPlaceF w a n xs f) (x : Ext w w') : InPlaceF w' a n xs f := ⟨h.1, h.2.1, h.2.2.1.ext x, fun k hk => (h.2.2.2 k hk).ext x⟩
theorem InPlaceF.at {w : World} {a : Option Addr} {n : Nat} {xs : List PlaceV} {f : Nat → Ref} (h : InPlaceF w a n xs f) (hn : 0 < n) :
    ∃ b o, a = some ⟨b, o, none⟩ ∧ b < w.heap.size ∧ ∀ k, k < n → w.cell? ⟨b, o + k * 5, none⟩ = some (.string (nthPlace xs k).code) ∧ w.cell? ⟨b, o + k * 5 + 1, none⟩ = some (.int .i64 (nthPlace xs k).klass) ∧ w.cell? ⟨b, o + k * 5 + 2, none⟩ = some (.int .i64 (nthPlace xs k).from_) ∧ w.cell? ⟨b, o + k * 5 + 3, none⟩ = some (.int .i64 (nthPlace xs k).to_) ∧ w.cell? ⟨b, o + k * 5 + 4, none⟩ = some (.slice (f k).a (f k).n (f k).c) := by
  have hl := h.1
  obtain ⟨b, o, ha, hb, hc⟩ := h.2.2.1.pos (by rw [flat_len, raws_len, hl]; exact Nat.mul_pos hn (by decide))
  refine ⟨b, o, ha, hb, fun k hk => place_cells (fun k x hx j u hu => hc _ u ?_) (by omega)⟩
  have := flat_get layPlace (raws xs f) k j x hx (by have := (List.getElem?_eq_some_iff.1 hu).1; rwa [layPlace.len] at this)
  exact this.trans hu
/-- What counting leaves. -/
theorem leftPlace_rdF {w : World} {a : Option Addr} {n : Nat} {xs : List PlaceV} {f : Nat → Ref} {left r : Int} (h : InPlaceF w a n xs f) (hl : Left n (totPlace xs) left r) (h0 : 0 ≤ r) (h1 : left ≤ 1048576) : RdPlaceF w a n xs f := by
  have := hl.1 h0
  refine ⟨⟨by rw [raws_len]; exact h.1, by omega, h.2.2.1⟩, fun k hk => ?_⟩
  have h2 := totPlace_le (nthPlace_mem (xs := xs) (k := k) (by rw [h.1]; exact hk))
  exact left_namesAt (left := sizePlace (nthPlace xs k)) (z := 0) (h.2.2.2 k hk) ⟨fun _ => by omega, fun h => by omega⟩ (Int.le_refl _) (by omega)

/-! Without the places of the names. -/
def RdPlace (w : World) (a : Option Addr) (n : Nat) (xs : List PlaceV) : Prop := ∃ f, RdPlaceF w a n xs f
theorem RdPlace.ext {w w' : World} {a : Option Addr} {n : Nat} {xs : List PlaceV} (h : RdPlace w a n xs) (x : Ext w w') : RdPlace w' a n xs := h.elim fun f h => ⟨f, h.ext x⟩
theorem RdPlace.len {w : World} {a : Option Addr} {n : Nat} {xs : List PlaceV} (h : RdPlace w a n xs) : xs.length = n := h.elim fun _ h => h.len
theorem RdPlace.le {w : World} {a : Option Addr} {n : Nat} {xs : List PlaceV} (h : RdPlace w a n xs) : n ≤ 4294967296 := h.elim fun _ h => h.le
def OwnPlace (w : World) (B : Nat) (a : Option Addr) (n c : Nat) (xs : List PlaceV) : Prop := ∃ f, OwnPlaceF w B a n c xs f
theorem OwnPlace.rd {w : World} {B n c : Nat} {a : Option Addr} {xs : List PlaceV} (h : OwnPlace w B a n c xs) : RdPlace w a n xs := h.elim fun f h => ⟨f, h.rd⟩
theorem OwnPlace.ext {w w' : World} {B n c : Nat} {a : Option Addr} {xs : List PlaceV} (h : OwnPlace w B a n c xs) (x : Ext w w') : OwnPlace w' B a n c xs := h.elim fun f h => ⟨f, h.ext x⟩
theorem OwnPlace.cap {w : World} {B n c : Nat} {a : Option Addr} {xs : List PlaceV} (h : OwnPlace w B a n c xs) : n ≤ c := h.elim fun _ h => h.cap
def NewPlace (w w' : World) (xs : List PlaceV) (v : Value) : Prop := ∃ a n c, v = .slice a n c ∧ OwnPlace w' w.heap.size a n c xs ∧ Ext w w'
def InPlace (w : World) (a : Option Addr) (n : Nat) (xs : List PlaceV) : Prop := ∃ f, InPlaceF w a n xs f
theorem InPlace.ext {w w' : World} {a : Option Addr} {n : Nat} {xs : List PlaceV} (h : InPlace w a n xs) (x : Ext w w') : InPlace w' a n xs := h.elim fun f h => ⟨f, h.ext x⟩
theorem leftPlace_rd {w : World} {a : Option Addr} {n : Nat} {xs : List PlaceV} {left r : Int} (h : InPlace w a n xs) (hl : Left n (totPlace xs) left r) (h0 : 0 ≤ r) (h1 : left ≤ 1048576) : RdPlace w a n xs := h.elim fun f h => ⟨f, leftPlace_rdF h hl h0 h1⟩
def namesN (xs : List PlaceV) : Nat := (xs.map fun x => x.names.length).sum
theorem names_tot (xs : List PlaceV) : namesN xs ≤ totPlace xs := by
  induction xs with
  | nil => exact Nat.le_refl _
  | cons x xs ih =>
    rw [namesN, totPlace] at *
    simp only [List.map_cons, List.sum_cons]
    unfold sizePlace at *
    omega

theorem take_setPlace (ys : List PlaceR) (x : PlaceV) (r : Ref) (k n : Nat) (zs : List Value) (hn : ys.length = k) (h : k < n) (hz : zs.length = 5) :
    ((((((ys.flatMap layPlace.cells ++ (List.replicate (n - k) zs).flatten).set (k * 5) (.string x.code)).set (k * 5 + 1) (.int .i64 x.klass)).set (k * 5 + 2) (.int .i64 x.from_)).set (k * 5 + 3) (.int .i64 x.to_)).set (k * 5 + 4) (.slice r.a r.n r.c)) = (ys ++ [rawP x r]).flatMap layPlace.cells ++ (List.replicate (n - (k + 1)) zs).flatten := by
  subst hn
  have e : n - ys.length = (n - (ys.length + 1)) + 1 := by omega
  rw [e, List.replicate_succ, List.flatten_cons]
  have hl : (ys.flatMap layPlace.cells).length = ys.length * 5 := by rw [flat_len]; rfl
  match zs, hz with
  | [z0, z1, z2, z3, z4], _ =>
    simp only [List.cons_append, List.nil_append]
    repeat rw [List.set_append_right _ _ (by omega), hl]
    rw [List.flatMap_append, List.append_assoc]
    simp [layPlace, rawP]

theorem Tryz.info_Place : (Tryz.prog.info? 67).map (fun i => (i.zero, i.size, i.bytes)) = some (some (.agg #[.string ⟨#[]⟩, .int .i64 0, .int .i64 0, .int .i64 0, .slice none 0 0]), 5, 64) := by kernel_rfl

end Go.Proofs.YtjelmidkkpchkaaGreatDoor
