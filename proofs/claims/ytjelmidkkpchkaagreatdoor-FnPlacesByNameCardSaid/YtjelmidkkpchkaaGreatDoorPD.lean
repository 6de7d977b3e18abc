/-
  Places as the draws make them: each with names that were made for it; the reference's copy of a register.
-/
import Derived.Test.YtjelmidkkpchkaaGreatDoorDL3
import Derived.Test.YtjelmidkkpchkaaGreatDoorNPlace
import Derived.Test.YtjelmidkkpchkaaGreatDoorM0
namespace Go.Proofs.YtjelmidkkpchkaaGreatDoor
open Go.RowKit

/-- A place and where its names lie. -/
structure Pl where
  x : PlaceV
  r : Ref
def layPl : Lay Pl where
  cells p := [.string p.x.code, .int .i64 p.x.klass, .int .i64 p.x.from_, .int .i64 p.x.to_, .slice p.r.a p.r.n p.r.c]
  sz := 5
  len _ := rfl
  one _ u hu := by simp at hu; rcases hu with rfl | rfl | rfl | rfl | rfl <;> rfl
  pos := by decide
def cellsPl (p : Pl) : Array Value := #[.string p.x.code, .int .i64 p.x.klass, .int .i64 p.x.from_, .int .i64 p.x.to_, .slice p.r.a p.r.n p.r.c]
def okPl (x : PlaceV) : Prop := x.code.size ≤ 68 ∧ shortN x.names ∧ x.names.length ≤ 13
/-- The names of a place are the call's own. -/
def OkP (w : World) (B : Nat) (p : Pl) : Prop := OwnG layName 69 w B p.r.a p.r.n p.r.c p.x.names ∧ okPl p.x
theorem OkP.ext {w w' : World} {B : Nat} {p : Pl} (h : OkP w B p) (x : Ext w w') : OkP w' B p := ⟨h.1.ext x, h.2⟩
theorem OkP.mono {w : World} {B B' : Nat} {p : Pl} (h : OkP w B p) (hb : B' ≤ B) : OkP w B' p := ⟨h.1.mono hb, h.2⟩
theorem OkP.drawn {w w' : World} {g B : Nat} {p : Pl} (h : OkP w B p) (hd : w.grownBy w' (some g)) (hg : g < B) : OkP w' B p := ⟨h.1.drawn hd hg, h.2⟩
theorem own_grownE {w w' : World} {B e sz n c m : Nat} {a : Option Addr} {xs : List Value} {r : Option Nat} (h : w.ownsRow B e sz (.slice a n c) m xs) (hd : w.grownBy w' r) (hne : ∀ k, (Value.slice a n c).ownBlock = some k → some k ≠ r) : w'.ownsRow B e sz (.slice a n c) m xs := by
  refine ⟨h.1, ?_⟩
  rcases h.2 with hn | ⟨g', cap, cur, hv, hbg, hgg, rest⟩
  · exact .inl hn
  · refine .inr ⟨g', cap, cur, hv, hbg, ?_, rest⟩
    rw [hd.block g' (Array.getElem?_eq_some_iff.1 hgg).1 (hne g' (by cases hv; rfl))]
    exact hgg
theorem own_apartE {w : World} {B B' e e' sz sz' n n' c c' m m' : Nat} {a a' : Option Addr} {xs ys : List Value} (h : w.ownsRow B e sz (.slice a n c) m xs) (h' : w.ownsRow B' e' sz' (.slice a' n' c') m' ys) (hne : e ≠ e') {k : Nat} (hk : (Value.slice a n c).ownBlock = some k) : (Value.slice a' n' c').ownBlock ≠ some k := by
  intro hk'
  rcases h.2 with ⟨hn, _⟩ | ⟨g, cap, cur, hv, hb, hg, _⟩
  · cases hn; cases hk
  · rcases h'.2 with ⟨hn, _⟩ | ⟨g', cap', cur', hv', hb', hg', _⟩
    · cases hn; cases hk'
    · cases hv; cases hv'
      have e1 : g = k := by simpa [Value.ownBlock] using hk
      have e2 : g' = k := by simpa [Value.ownBlock] using hk'
      subst e1; subst e2
      rw [hg] at hg'
      simp only [Option.some.injEq, Obj.cells.injEq] at hg'
      exact hne hg'.2.1
theorem kind_neP : 69 ≠ 67 := by decide
/-- A row of places grows: the names stay. -/
theorem OkP.grow {w w' : World} {B B' n c : Nat} {a : Option Addr} {ps : List Pl} {p : Pl} (h : OkP w B p) (hrow : OwnG layPl 67 w B' a n c ps) (hg : w.grownBy w' (Value.slice a n c).ownBlock) : OkP w' B p :=
  ⟨⟨own_grownE h.1.1 hg fun _ hk e => own_apartE h.1.1 hrow.1 kind_neP hk e.symm, h.1.2⟩, h.2⟩
theorem OkP.off {w : World} {B b k : Nat} {u : Value} {p : Pl} (h : OkP w B p) (hb : b < B) : OkP (w.setCell ⟨b, k, none⟩ u) B p :=
  ⟨⟨(by
    refine ⟨h.1.1.1, ?_⟩
    rcases h.1.1.2 with hn | ⟨g2, cap, cur, hv, hbg, hgg, rest⟩
    · exact .inl hn
    · refine .inr ⟨g2, cap, cur, hv, hbg, ?_, rest⟩
      rw [Below.heap_setCell _ _ _ _ (show g2 ≠ b by omega)]
      exact hgg), h.1.2⟩, h.2⟩
theorem OkP.okNames {w : World} {B : Nat} {p : Pl} (h : OkP w B p) : ∀ x ∈ p.x.names, okName x := fun x hx => ⟨Nat.le_trans (h.2.2.1 x hx).1 (by decide), Nat.le_trans (h.2.2.1 x hx).2 (by decide)⟩
theorem OkP.own {w : World} {B : Nat} {p : Pl} (h : OkP w B p) : OwnName w B p.r.a p.r.n p.r.c p.x.names := ⟨h.1, h.okNames⟩
theorem OkP.num {w : World} {B : Nat} {p : Pl} (h : OkP w B p) : p.r.n ≤ 13 := by rw [← h.1.rd.len]; exact h.2.2.2
theorem OkP.at {w : World} {B : Nat} {p : Pl} (h : OkP w B p) : NamesAt w p.r p.x := ⟨h.own.rd, h.own.cap, Nat.le_trans h.2.1 (by decide), Nat.le_trans h.num (by decide)⟩
def OwnPl (w : World) (B : Nat) (a : Option Addr) (n c : Nat) (ps : List Pl) : Prop := OwnG layPl 67 w B a n c ps ∧ ∀ p ∈ ps, OkP w B p
theorem OwnPl.ext {w w' : World} {B n c : Nat} {a : Option Addr} {ps : List Pl} (h : OwnPl w B a n c ps) (x : Ext w w') : OwnPl w' B a n c ps := ⟨h.1.ext x, fun p hp => (h.2 p hp).ext x⟩
theorem OwnPl.mono {w : World} {B B' n c : Nat} {a : Option Addr} {ps : List Pl} (h : OwnPl w B a n c ps) (hb : B' ≤ B) : OwnPl w B' a n c ps := ⟨h.1.mono hb, fun p hp => (h.2 p hp).mono hb⟩
theorem OwnPl.drawn {w w' : World} {g B n c : Nat} {a : Option Addr} {ps : List Pl} (h : OwnPl w B a n c ps) (hd : w.grownBy w' (some g)) (hg : g < B) : OwnPl w' B a n c ps := ⟨h.1.drawn hd hg, fun p hp => (h.2 p hp).drawn hd hg⟩
theorem OwnPl.isNil (w : World) (B : Nat) : OwnPl w B none 0 0 [] := ⟨OwnG.isNil _ _ _ _, by simp⟩
theorem OwnPl.cap {w : World} {B n c : Nat} {a : Option Addr} {ps : List Pl} (h : OwnPl w B a n c ps) : n ≤ c := by
  rcases h.1.1.2 with ⟨h1, h2⟩ | ⟨g, cap, cur, hv, _, _, hc, _⟩
  · omega
  · cases hv; exact hc
/-- One place more. -/
theorem OwnPl.snoc {w w' : World} {B n c c' : Nat} {a a' : Option Addr} {ps : List Pl} {p : Pl} (h : OwnPl w B a n c ps) (hp : OkP w B p) (hrow : OwnG layPl 67 w' B a' (n + 1) c' (ps ++ [p])) (hg : w.grownBy w' (Value.slice a n c).ownBlock) : OwnPl w' B a' (n + 1) c' (ps ++ [p]) :=
  ⟨hrow, fun q hq => by
    rcases List.mem_append.1 hq with m | e
    · exact (h.2 q m).grow h.1 hg
    · rw [List.mem_singleton.1 e]; exact hp.grow h.1 hg⟩
def refAt (ps : List Pl) (k : Nat) : Ref := ((ps[k]?).map Pl.r).getD ⟨none, 0, 0⟩
theorem raws_pl (ps : List Pl) : (raws (ps.map Pl.x) (refAt ps)).flatMap layPlace.cells = ps.flatMap layPl.cells := by
  have : raws (ps.map Pl.x) (refAt ps) = ps.map fun p => rawP p.x p.r := by
    apply List.ext_getElem
    · simp [raws]
    · intro k h1 h2
      have hk : k < ps.length := by simpa [raws] using h1
      simp only [raws, List.getElem_map, List.getElem_range]
      rw [nthPlace_eq (by simpa using hk), List.getElem_map, refAt, List.getElem?_eq_getElem hk]
      rfl
  rw [this, List.flatMap_map]
  rfl
/-- As the statements' helpers read it. -/
theorem rdPlace {w : World} {a : Option Addr} {n B : Nat} {ps : List Pl} (h : RdG layPl w a n ps) (hp : ∀ p ∈ ps, OkP w B p) : RdPlace w a n (ps.map Pl.x) :=
  ⟨refAt ps, ⟨by rw [raws_len, List.length_map]; exact h.len, h.le, by rw [raws_pl]; exact h.2.2⟩, fun k hk => by
    have hl : k < ps.length := by rw [h.len]; exact hk
    have := (hp _ (List.getElem_mem hl)).at
    rw [nthPlace_eq (by simpa using hl), List.getElem_map, refAt, List.getElem?_eq_getElem hl]
    exact this⟩
theorem OwnPl.rd {w : World} {B n c : Nat} {a : Option Addr} {ps : List Pl} (h : OwnPl w B a n c ps) : RdPlace w a n (ps.map Pl.x) := rdPlace h.1.rd h.2
theorem Box.grown {w w' : World} {b : Nat} {xs : Array Value} {T : TypeId} {r : Option Nat} (h : Box w b xs T) (hg : w.grownBy w' r) (hr : some b ≠ r) : Box w' b xs T := (hg.block b h.lt hr).trans h
/-- The cells of place k. -/
theorem pl_cells {w : World} {b o : Nat} {ps : List Pl} (hc : ∀ k x, ps[k]? = some x → ∀ j u, (layPl.cells x)[j]? = some u → w.cell? ⟨b, o + (k * layPl.sz + j), none⟩ = some u) {k : Nat} {p : Pl} (hk : ps[k]? = some p) :
    w.cell? ⟨b, o + k * 5, none⟩ = some (.string p.x.code) ∧ w.cell? ⟨b, o + k * 5 + 1, none⟩ = some (.int .i64 p.x.klass) ∧ w.cell? ⟨b, o + k * 5 + 2, none⟩ = some (.int .i64 p.x.from_) ∧ w.cell? ⟨b, o + k * 5 + 3, none⟩ = some (.int .i64 p.x.to_) ∧ w.cell? ⟨b, o + k * 5 + 4, none⟩ = some (.slice p.r.a p.r.n p.r.c) :=
  ⟨hc k _ hk 0 _ rfl, by rw [Nat.add_assoc]; exact hc k _ hk 1 _ rfl, by rw [Nat.add_assoc]; exact hc k _ hk 2 _ rfl, by rw [Nat.add_assoc]; exact hc k _ hk 3 _ rfl, by rw [Nat.add_assoc]; exact hc k _ hk 4 _ rfl⟩

set_option maxRecDepth 100000 in
set_option maxHeartbeats 4000000 in
theorem l11Own_any (a : Option Addr) (n c B : Nat) (ps : List Pl) (w : World) (hr : RdG layPl w a n ps) (hp : ∀ p ∈ ps, OkP w B p) :
    Calls Tryz.prog 146 #[.slice a n c] w fun e w' => ∃ a' c' qs, e = .returned (.slice a' n c') ∧ OwnPl w' w.heap.size a' n c' qs ∧ qs.map Pl.x = ps.map Pl.x ∧ Ext w w' := by
  have hm := hr.le
  have hln := hr.len
  have HP := Lib.hid hp
  clear hp
  go_enter Tryz.func146, Tryz.ntmps146
  go_wp2
  go_loopw [3, 4, 5] (fun v i _ wr => ∃ (k : Nat) (qs : List Pl) (a1 : Option Addr) (c1 : Nat), k ≤ n ∧ i = .int .i64 k ∧ v = .slice a1 k c1 ∧ OwnPl wr w.heap.size a1 k c1 qs ∧ qs.map Pl.x = (ps.take k).map Pl.x ∧ Ext w wr) (fun _ i _ _ => n - (intOf i).toNat)
  case atStart => exact ⟨0, [], _, _, Nat.zero_le _, rfl, rfl, ⟨OwnG.lit layPl 67 w (Nat.le_refl _) [] #[] rfl (by simp), by simp⟩, rfl, (Ext.refl _).alloc _⟩
  case round =>
    obtain ⟨k, qs, a1, c1, hk, rfl, rfl, ho, hq, hx⟩ := hrel
    have HQ := Lib.hid hq
    clear hq
    by_cases hlt : k < n
    · obtain ⟨b, o, ea, hbl, hA⟩ := (hr.ext hx).at (by omega)
      subst ea
      have hget := List.getElem?_eq_getElem (l := ps) (i := k) (by omega)
      obtain ⟨hc0, hc1, hc2, hc3, hc4⟩ := pl_cells hA hget
      have hpk := (HP.out _ (List.mem_of_getElem? hget)).ext hx
      have hnum := hpk.num
      have HE := Lib.hid (show ps.take (k + 1) = ps.take k ++ [ps[k]] from List.take_succ_eq_append_getElem (by omega))
      have hki : (k : Int) < n := by omega
      clear hA hget
      generalize ps[k] = p at hc0 hc1 hc2 hc3 hc4 hpk hnum HE
      have ho0 := OwnG.lit layName 69 (wr.alloc (.cells (cellsPl p) 67)) (Nat.le_refl _) [] #[] rfl (by simp)
      have hb0 := (Box.new wr (cellsPl p) 67).ext ((Ext.refl _).alloc (.cells #[] 69))
      have xb := ((Ext.refl wr).alloc (.cells (cellsPl p) 67)).alloc (.cells #[] 69)
      rw [World.size_alloc] at ho0
      have hx0 := hx.size
      have HB := Lib.hid (And.intro ho0 (And.intro hb0 (And.intro xb (And.intro ho (And.intro hx hpk)))))
      clear ho0 hb0 xb ho hx hpk
      have hxs := hx0
      go_wp2_with (first | (at_builtin; refine wpList_appG layName rfl _ _ 65 69 rfl Tryz.underlying65 (.agg #[.string ⟨#[]⟩, .string ⟨#[]⟩, .int .i64 0, .int .i64 0, .int .i64 0]) 56 Tryz.info_Name rfl (by decide) (wr.heap.size + 1) _ 0 _ [] rfl HB.out.1 _ _ _ p.x.names rfl (HB.out.2.2.2.2.2.1.ext HB.out.2.2.1).rd (by omega) (by simp) ?_; intro a2 c2 w2 hown hgrow; simp only [Nat.zero_add, List.nil_append] at hown ⊢; have hb2 := HB.out.2.1.grown hgrow (by simp [Value.ownBlock]); have d0 : _ = some (Value.string p.x.code) := hb2.cell 0; have d1 : _ = some (Value.int .i64 p.x.klass) := hb2.cell 1; have d2 : _ = some (Value.int .i64 p.x.from_) := hb2.cell 2; have d3 : _ = some (Value.int .i64 p.x.to_) := hb2.cell 3; have d4 : _ = some (Value.slice p.r.a p.r.n p.r.c) := hb2.cell 4; have f4 := hb2.frozen 4; have X3 := (HB.out.2.2.1.grown hgrow (fun j e => by simp [Value.ownBlock] at e; omega)).setCell (p := ⟨wr.heap.size, 4, none⟩) (Nat.le_refl _) (.slice a2 p.r.n c2); have hs3 := X3.size; have hrd := RdG.new1 layPl (w2.setCell ⟨wr.heap.size, 4, none⟩ (.slice a2 p.r.n c2)) ⟨p.x, ⟨a2, p.r.n, c2⟩⟩ #[.string p.x.code, .int .i64 p.x.klass, .int .i64 p.x.from_, .int .i64 p.x.to_, .slice a2 p.r.n c2] rfl 67; rw [World.size_setCell] at hrd; have H2 := Lib.hid (And.intro hown X3); have HRD := Lib.hid hrd; clear hown hgrow hb2 X3 hrd) | (at_builtin; refine wpList_appG layPl rfl _ _ 24 67 rfl Tryz.underlying24 (.agg #[.string ⟨#[]⟩, .int .i64 0, .int .i64 0, .int .i64 0, .slice none 0 0]) 64 Tryz.info_Place rfl (by decide) w.heap.size _ k _ qs rfl ((HB.out.2.2.2.1.1.ext H2.out.2).alloc _) _ 1 _ [⟨p.x, ⟨a2, p.r.n, c2⟩⟩] rfl HRD.out (by omega) (by simp only [World.size_alloc]; omega) ?_; intro a4 c4 w4 hown hgrow; have HO := Lib.hid (And.intro hown hgrow); clear hown hgrow))
      go_roundw
      case rel =>
        have hok : OkP w2 (wr.heap.size + 1) ⟨p.x, ⟨a2, p.r.n, c2⟩⟩ := ⟨H2.out.1, HB.out.2.2.2.2.2.2⟩
        have hok2 := ((hok.off (b := wr.heap.size) (k := 4) (u := .slice a2 p.r.n c2) (Nat.lt_succ_self _)).mono (B' := w.heap.size) (by omega)).ext ((Ext.refl _).alloc (.cells #[.string p.x.code, .int .i64 p.x.klass, .int .i64 p.x.from_, .int .i64 p.x.to_, .slice a2 p.r.n c2] 67))
        refine ⟨k + 1, qs ++ [⟨p.x, ⟨a2, p.r.n, c2⟩⟩], a4, c4, by omega, by go_num, rfl, ?_, by rw [List.map_append, HQ.out, HE.out, List.map_append]; rfl, (HB.out.2.2.2.2.1.trans H2.out.2).appG (HB.out.2.2.2.1.1.ext H2.out.2) (Nat.le_refl _) HO.out.2⟩
        exact OwnPl.snoc ((HB.out.2.2.2.1.ext H2.out.2).ext ((Ext.refl _).alloc _)) hok2 HO.out.1 HO.out.2
      case measure => simp [intOf]; omega
    · obtain rfl : k = n := by omega
      go_wp2
      go_ret
      exact ⟨_, _, qs, rfl, ho, by rw [HQ.out, List.take_of_length_le (by omega)], hx⟩

end Go.Proofs.YtjelmidkkpchkaaGreatDoor
