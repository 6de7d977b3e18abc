/-
  Place: marks in slices of such values.
-/
import Derived.Test.YtdacmbclkpgngaaGreatDoorNPlace
import Derived.Test.YtdacmbclkpgngaaGreatDoorKName
namespace Go.Proofs.YtdacmbclkpgngaaGreatDoor
open Go.RowKit
attribute [local go_sem ↓] Go.wp_at_zero Go.wp_at_succ

/-- Of what was there only blocks from B up to E have turned; there may be new ones. -/
structure WroteIn (w w' : World) (B E : Nat) : Prop where
  os : w'.os = w.os
  tape : w'.tape = w.tape
  output : w'.output = w.output
  size : w.heap.size ≤ w'.heap.size
  block : ∀ k, k < w.heap.size → (k < B ∨ E ≤ k) → w'.heap[k]? = w.heap[k]?
theorem WroteIn.refl (w : World) (B E : Nat) : WroteIn w w B E := ⟨rfl, rfl, rfl, Nat.le_refl _, fun _ _ _ => rfl⟩
theorem WroteIn.more {w w1 w2 : World} {B E : Nat} (h : WroteIn w w1 B E) (x : Ext w1 w2) : WroteIn w w2 B E :=
  ⟨x.os.trans h.os, x.tape.trans h.tape, x.output.trans h.output, Nat.le_trans h.size x.size, fun k hlt hk => (x.block k (Nat.lt_of_lt_of_le hlt h.size)).trans (h.block k hlt hk)⟩
theorem WroteIn.wrote {w w1 w2 : World} {B E : Nat} {a : Option Addr} (h : WroteIn w w1 B E) (k : Wrote w1 w2 a) (ha : ∀ g, a = some g → B ≤ g.block ∧ g.block < E) : WroteIn w w2 B E :=
  ⟨k.os.trans h.os, k.tape.trans h.tape, k.output.trans h.output, Nat.le_trans h.size k.size, fun j hlt hj => (k.block j (Nat.lt_of_lt_of_le hlt h.size) fun g e => by have := ha g e; omega).trans (h.block j hlt hj)⟩
/-- What was there before B reads on. -/
theorem WroteIn.ext {w0 w w' : World} {B E : Nat} (h : WroteIn w w' B E) (h0 : Ext w0 w) (hB : w0.heap.size ≤ B) : Ext w0 w' :=
  Below.trans h0 ⟨h.os, h.tape, h.output, h.size, fun k hk => h.block k (Nat.lt_of_lt_of_le hk h0.size) (.inl (Nat.lt_of_lt_of_le hk hB))⟩
/-- What was made from E on stays owned. -/
theorem WroteIn.kept {w w' : World} {B E B' e' sz' n' c' m' : Nat} {a' : Option Addr} {ys : List Value} (h : WroteIn w w' B E) (ho : w.ownsRow B' e' sz' (.slice a' n' c') m' ys) (hE : E ≤ B') : w'.ownsRow B' e' sz' (.slice a' n' c') m' ys := by
  refine ⟨ho.1, ?_⟩
  rcases ho.2 with hn | ⟨g2, cap, cur, hv, hbg, hgg, rest⟩
  · exact .inl hn
  · refine .inr ⟨g2, cap, cur, hv, hbg, ?_, rest⟩
    rw [h.block g2 (Array.getElem?_eq_some_iff.1 hgg).1 (.inr (Nat.le_trans hE hbg))]
    exact hgg
theorem namesN_step {xs : List PlaceV} {t : Nat} (h : t < xs.length) : namesN (xs.take (t + 1)) = namesN (xs.take t) + (nthPlace xs t).names.length := by
  rw [namesN, namesN, List.take_succ_eq_append_getElem h, List.map_append, List.sum_append, nthPlace_eq h]
  simp
theorem namesN_take (xs : List PlaceV) (t : Nat) : namesN (xs.take t) ≤ namesN xs := by
  have : namesN xs = namesN (xs.take t) + namesN (xs.drop t) := by
    rw [namesN, namesN, namesN, ← List.sum_append, ← List.map_append, List.take_append_drop]
  omega
theorem mark_setPlace (ys : List PlaceR) (y : PlaceR) (s : ByteArray) (k1 k2 k3 : Int) (t : Nat) (h : ys[t]? = some y) :
    ((((ys.flatMap layPlace.cells).set (t * 5) (.string s)).set (t * 5 + 1) (.int .i64 k1)).set (t * 5 + 2) (.int .i64 k2)).set (t * 5 + 3) (.int .i64 k3) = (ys.set t ⟨s, k1, k2, k3, y.r⟩).flatMap layPlace.cells := by
  obtain ⟨hlt, rfl⟩ := List.getElem?_eq_some_iff.1 h
  have e : ys = ys.take t ++ ys[t] :: ys.drop (t + 1) := by rw [← List.drop_eq_getElem_cons hlt, List.take_append_drop]
  have e2 : ys.set t ⟨s, k1, k2, k3, ys[t].r⟩ = ys.take t ++ ⟨s, k1, k2, k3, ys[t].r⟩ :: ys.drop (t + 1) := by
    rw [List.set_eq_take_append_cons_drop, if_pos hlt]
  rw [e2]
  generalize ys[t] = y at *
  conv => lhs; rw [e]
  rw [List.flatMap_append, List.flatMap_append, List.flatMap_cons, List.flatMap_cons]
  have hl : ((ys.take t).flatMap layPlace.cells).length = t * 5 := by rw [flat_len, List.length_take, Nat.min_eq_left (by omega)]; rfl
  repeat rw [List.set_append_right _ _ (by omega), hl]
  simp [layPlace]

set_option maxRecDepth 100000 in
set_option maxHeartbeats 1000000 in
theorem markPlaceS_any (B : Nat) (a : Option Addr) (n c : Nat) (k : Int) (xs : List PlaceV) (w0 w : World) (hr : OwnPlace w0 B a n c xs) (hx : Ext w0 w) (hk0 : 0 < k) (hk1 : k ≤ 1048576) (hn : n ≤ 1048576) (hm : namesN xs ≤ 1048576) :
    Calls Tryz.prog 13 #[.slice a n c, .int .i64 k] w fun e w' => e = .returned (.int .i64 (k + 4 * (n : Int) + 5 * (namesN xs : Int))) ∧ WroteIn w w' B w0.heap.size := by
  obtain ⟨f, ho, bs, hb0, hba, hN⟩ := hr
  have hln : xs.length = n := by rw [← raws_len xs f]; exact ho.rd.len
  have hEa : ∀ g, a = some g → B ≤ g.block ∧ g.block < w0.heap.size := fun g e => by
    rcases own_addr ho.1 with h | ⟨g', h⟩
    · rw [h] at e; cases e
    · rw [h] at e; cases e
      exact ho.1.lt _ (by rw [h]; rfl)
  have hEn : ∀ i, i < n → ∀ g, (f i).a = some g → bs i ≤ g.block ∧ g.block < bs (i + 1) ∧ g.block < w0.heap.size := fun i hi g e => by
    rcases own_addr (hN i hi).2.1.1.1 with h | ⟨g', h⟩
    · rw [h] at e; cases e
    · rw [h] at e; cases e
      have h1 := (hN i hi).2.1.1.1.lt g' (by rw [h]; rfl)
      exact ⟨h1.1, (hN i hi).2.2.1 g' h, h1.2⟩
  have hmono := hN.mono
  have hstep : ∀ i j, i ≤ j → j ≤ n → bs i ≤ bs j := by
    intro i j hij
    induction j with
    | zero => intro _; obtain rfl : i = 0 := by omega
              exact Nat.le_refl _
    | succ j ih =>
      intro hj
      by_cases e : i = j + 1
      · rw [e]; exact Nat.le_refl _
      · exact Nat.le_trans (ih (by omega) (by omega)) (hN j (by omega)).1
  have HF := Lib.hid (And.intro hEa (And.intro hEn (And.intro hmono (And.intro hstep (And.intro hba hb0)))))
  have HN := Lib.hid hN
  clear hEa hEn hmono hstep hba hb0 hN
  go_enter Tryz.func13, Tryz.ntmps13
  go_wp2
  go_loopw [1, 5] (fun u i wr => ∃ (t : Nat) (ys : List PlaceR), t ≤ n ∧ i = .int .i64 t ∧ u = .int .i64 (k + 4 * (t : Int) + 5 * (namesN (xs.take t) : Int)) ∧ OwnG layPlace 68 wr B a n c ys ∧ (∀ i, t ≤ i → i < n → ys[i]? = some (rawP (nthPlace xs i) (f i))) ∧ (∀ i, t ≤ i → i < n → OwnName wr (bs i) (f i).a (f i).n (f i).c (nthPlace xs i).names) ∧ WroteIn w wr B w0.heap.size) (fun _ i _ => n - (intOf i).toNat)
  case atStart => exact ⟨0, raws xs f, Nat.zero_le _, rfl, by simp [namesN], ho.ext hx, fun i _ hi => raws_get (by omega), fun i _ hi => (HN.out i hi).2.1.ext hx, WroteIn.refl _ _ _⟩
  case round =>
    obtain ⟨t, ys, ht, rfl, rfl, ho1, hys, hns, hw⟩ := hrel
    by_cases hlt : t < n
    · obtain ⟨g, rfl⟩ : ∃ g, a = some ⟨g, 0, none⟩ := by
        rcases own_addr ho1.1 with rfl | h
        · have := ho1.rd.isNone.1; omega
        · exact h
      have hti : (t : Int) < n := by omega
      have hyt := hys t (Nat.le_refl _) hlt
      have hnt := hns t (Nat.le_refl _) hlt
      have hnn := (HN.out t hlt).2.2.2.2
      have hst := namesN_step (xs := xs) (t := t) (by omega)
      have hle := namesN_take xs (t + 1)
      have hlt2 : (nthPlace xs t).names.length = (f t).n := hnt.rd.len
      have hu0 : namesN (xs.take t) ≤ 1048576 := by omega
      have HT := Lib.hid (And.intro hst hlt2)
      have HM := Lib.hid ho1.2
      have own0 : wr.ownsRow B 68 5 (.slice (some ⟨g, 0, none⟩) n c) n _ := ho1.1
      clear hst hle hlt2
      go_wp2_with fail
      refine (markText_int _ _ (by omega) (by omega)).mono ?_
      rintro e w1 ⟨rfl, hx1⟩
      have ow0 := own_ext own0 hx1
      have hf0 := ow0.frozenAt (t * 5)
      obtain ⟨u0, hu0⟩ := own_oldG ow0 (t * 5) (by omega)
      have hf1 := ow0.frozenAt (t * 5 + 1)
      obtain ⟨u1, hu1⟩ := own_oldG ow0 (t * 5 + 1) (by omega)
      have hf2 := ow0.frozenAt (t * 5 + 2)
      obtain ⟨u2, hu2⟩ := own_oldG ow0 (t * 5 + 2) (by omega)
      have hf3 := ow0.frozenAt (t * 5 + 3)
      obtain ⟨u3, hu3⟩ := own_oldG ow0 (t * 5 + 3) (by omega)
      have hc4 : w1.cell? ⟨g, t * 5 + 4, none⟩ = some (.slice (f t).a (f t).n (f t).c) := by
        rw [ow0.cellAt (t * 5 + 4) (by omega)]
        exact flat_get layPlace ys t 4 _ hyt (by decide)
      have own1 := (ow0.stored (t * 5) (.string (markT (k + 4 * (t : Int) + 5 * (namesN (xs.take t) : Int)).toNat))).1
      have own2 := (own1.stored (t * 5 + 1) (.int .i64 (k + 4 * (t : Int) + 5 * (namesN (xs.take t) : Int) + 1))).1
      have own3 := (own2.stored (t * 5 + 2) (.int .i64 (k + 4 * (t : Int) + 5 * (namesN (xs.take t) : Int) + 1 + 1))).1
      have own4 := (own3.stored (t * 5 + 3) (.int .i64 (k + 4 * (t : Int) + 5 * (namesN (xs.take t) : Int) + 1 + 1 + 1))).1
      have hq := ((((Wrote.refl w1 (some ⟨g, 0, none⟩)).setCell (t * 5) (.string (markT (k + 4 * (t : Int) + 5 * (namesN (xs.take t) : Int)).toNat))).setCell (t * 5 + 1) (.int .i64 (k + 4 * (t : Int) + 5 * (namesN (xs.take t) : Int) + 1))).setCell (t * 5 + 2) (.int .i64 (k + 4 * (t : Int) + 5 * (namesN (xs.take t) : Int) + 1 + 1))).setCell (t * 5 + 3) (.int .i64 (k + 4 * (t : Int) + 5 * (namesN (xs.take t) : Int) + 1 + 1 + 1))
      rw [mark_setPlace ys _ _ _ _ _ t hyt] at own4
      obtain ⟨hEa, hEn, hmono, hstep, hba, hb0⟩ := HF.out
      have hgb : ∀ i, i ≤ n → g < bs i := fun i hi => Nat.lt_of_lt_of_le (hba g rfl) (hmono i hi)
      have hnx : ∀ i, t ≤ i → i < n → OwnName _ (bs i) (f i).a (f i).n (f i).c (nthPlace xs i).names := fun i hi hin => ⟨⟨hq.above ((hns i hi hin).ext hx1).1.1 (fun g' e => by cases e; exact hgb i (by omega)), ((hns i hi hin).ext hx1).1.2⟩, ((hns i hi hin).ext hx1).2⟩
      have hwq := (hw.more hx1).wrote hq (fun g' e => by cases e; exact hEa _ rfl)
      have hn4 := hnx t (Nat.le_refl _) hlt
      have hcc : (_ : World).cell? ⟨g, t * 5 + 4, none⟩ = some (.slice (f t).a (f t).n (f t).c) := (own4.cellAt (t * 5 + 4) (by omega)).trans (flat_get layPlace _ t 4 _ (List.getElem?_set_self (by have := ho1.rd.len; omega)) (by decide))
      have hys2 : ∀ (y : PlaceR) i, t + 1 ≤ i → i < n → (ys.set t y)[i]? = some (rawP (nthPlace xs i) (f i)) := fun y i hi hin => (List.getElem?_set_ne (by omega)).trans (hys i (by omega) hin)
      have HH := Lib.hid (And.intro own4 (And.intro hnx (And.intro hwq (And.intro hn4 hys2))))
      clear own4 hq hEa hEn hmono hstep hba hb0 hgb hnx hwq hn4 hys2 own0 own1 own2 own3 ow0 hys hns ho1 hw
      go_wp2_with fail
      refine (markNameS_any (bs t) _ _ _ _ (nthPlace xs t).names _ HH.out.2.2.2.1 (by omega) (by omega) (by omega)).mono ?_
      rintro e w5 ⟨rfl, _, hw5⟩
      obtain ⟨hEa, hEn, hmono, hstep, hba, hb0⟩ := HF.out
      have hpl := hw5.ahead HH.out.1 (fun g2 g' e1 e2 => by cases e1; exact Nat.lt_of_lt_of_le (Nat.lt_of_lt_of_le (hba g rfl) (hmono t (by omega))) (hEn t hlt g' e2).1)
      have hnx2 : ∀ i, t + 1 ≤ i → i < n → OwnName w5 (bs i) (f i).a (f i).n (f i).c (nthPlace xs i).names := fun i hi hin => ⟨⟨hw5.above (HH.out.2.1 i (by omega) hin).1.1 (fun g' e => Nat.lt_of_lt_of_le (hEn t hlt g' e).2.1 (hstep (t + 1) i hi (by omega))), (HH.out.2.1 i (by omega) hin).1.2⟩, (HH.out.2.1 i (by omega) hin).2⟩
      have hw6 := HH.out.2.2.1.wrote hw5 (fun g' e => ⟨Nat.le_trans (Nat.le_trans hb0 (hmono t (by omega))) (hEn t hlt g' e).1, (hEn t hlt g' e).2.2⟩)
      have HK := Lib.hid (And.intro hpl (And.intro hnx2 hw6))
      clear hpl hnx2 hw6 hEa hEn hmono hstep hba hb0
      go_wp2
      go_roundw
      case rel => exact ⟨t + 1, _, by omega, by go_num, by rw [HT.out.1, HT.out.2]; congr 1; omega, ⟨HK.out.1, HM.out⟩, HH.out.2.2.2.2 _, HK.out.2.1, HK.out.2.2⟩
      case measure => simp [intOf]; omega
    · obtain rfl : t = n := by omega
      have HW := Lib.hid hw
      clear hw
      go_wp2
      go_ret
      rw [List.take_of_length_le (by omega)]
      exact ⟨rfl, HW.out⟩

end Go.Proofs.YtdacmbclkpgngaaGreatDoor
