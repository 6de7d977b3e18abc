/-
  Which places bear a name in a year; PlacesNamed on both sides.
-/
import Derived.Test.YtjelmidkkpchkaaGreatDoorPI
import Derived.Test.YtjelmidkkpchkaaGreatDoorM1
import Derived.Test.YtjelmidkkpchkaaGreatDoorM0
import Derived.Test.YtjelmidkkpchkaaGreatDoorY2
namespace Go.Proofs.YtjelmidkkpchkaaGreatDoor
open Go.RowKit
attribute [local go_sem ↓] Go.wp_at_zero Go.wp_at_succ

def HoldsStr (w : World) (b : Nat) (s : ByteArray) : Prop := b < w.heap.size ∧ w.cell? ⟨b, 0, none⟩ = some (.string s)
theorem HoldsStr.ext {w w' : World} {b : Nat} {s : ByteArray} (h : HoldsStr w b s) (x : Ext w w') : HoldsStr w' b s := ⟨Nat.lt_of_lt_of_le h.1 x.size, (Below.cell x (p := ⟨b, 0, none⟩) h.1).trans h.2⟩
def namedX (s : ByteArray) (y : Int) (x : NameV) : Bool := decide (x.text = s) && inB y x.from_ x.to_
def namedP (s : ByteArray) (y : Int) (x : PlaceV) : Bool := anyP (namedX s y) x.names
theorem namedP_at {s : ByteArray} {y : Int} {xs : List NameV} {k : Nat} (hk : k < (usedX xs y).length) (h : (nthName xs (usedX xs y)[k]).text = s) : anyP (namedX s y) xs = true := by
  obtain ⟨_, h1⟩ := usedX_get hk
  have h2 := usedX_has hk
  refine anyP_at h1 ?_
  rw [← nthName_eq h1, namedX, h]
  rw [hasY] at h2
  simp [h2]
theorem namedP_none {s : ByteArray} {y : Int} {xs : List NameV} (h : ∀ j (hj : j < (usedX xs y).length), (nthName xs (usedX xs y)[j]).text ≠ s) : anyP (namedX s y) xs = false := by
  refine anyP_none fun j hj => ?_
  rw [← nthName_eq hj, namedX]
  cases hi : inB y (nthName xs j).from_ (nthName xs j).to_
  · simp
  · have hm : j ∈ usedX xs y := List.mem_filter.2 ⟨List.mem_range.2 hj, hi⟩
    obtain ⟨i, hi2, rfl⟩ := List.getElem_of_mem hm
    simp [h i hi2]

set_option maxRecDepth 100000 in
set_option maxHeartbeats 400000 in
theorem namedClosure_any (x : NameV) (s : ByteArray) (y : Int) (b b2 : Nat) (w : World) (h1 : HoldsStr w b s) (h2 : HoldsInt w b2 y) :
    Calls Tryz.prog 96 #[valName x, .pointer (some ⟨b, 0, none⟩), .pointer (some ⟨b2, 0, none⟩)] w fun e w' => e = .returned (.bool (namedX s y x)) ∧ Ext w w' := by
  obtain ⟨x0, x1, x2, x3, x4⟩ := x
  have xb := (Ext.refl w).alloc (.cells #[.string x0, .string x1, .int .i64 x2, .int .i64 x3, .int .i64 x4] 69)
  obtain ⟨g1, g2⟩ := h1.ext xb
  obtain ⟨g3, g4⟩ := h2.ext xb
  simp only [valName]
  by_cases ht : x0 = s
  · have hbe := beqS_eq ht
    have HR := Lib.hid (show namedX s y ⟨x0, x1, x2, x3, x4⟩ = inB y x3 x4 by simp [namedX, ht])
    clear ht
    go_enter Tryz.func96, Tryz.ntmps96
    go_wp2_with fail
    refine (has_any ⟨x3, x4⟩ _ _).mono ?_
    rintro e w1 ⟨rfl, e1⟩
    go_wp2
    go_ret
    exact ⟨by rw [HR.out]; rfl, xb.trans e1⟩
  · have hbe := beqS_ne ht
    have HR := Lib.hid (show namedX s y ⟨x0, x1, x2, x3, x4⟩ = false by simp [namedX, ht])
    clear ht
    go_enter Tryz.func96, Tryz.ntmps96
    go_wp2
    go_ret
    exact ⟨by rw [HR.out]; rfl, xb⟩

set_option maxRecDepth 100000 in
set_option maxHeartbeats 400000 in
theorem idxNamed_any (a : Option Addr) (n c : Nat) (xs : List NameV) (p : NameV → Bool) (q0 : Addr) (q1 : Addr) (w : World) (hr : RdName w a n xs) (hk : ∀ w1, Ext w w1 → ∀ k, k < n → Calls Tryz.prog 96 #[valName (nthName xs k), .pointer (some q0), .pointer (some q1)] w1 fun e w2 => e = .returned (.bool (p (nthName xs k))) ∧ Ext w1 w2) :
    Calls Tryz.prog 139 #[.slice a n c, .func (.func 96) #[] #[.pointer (some q0), .pointer (some q1)]] w fun e w' => e = .returned (.int .i64 (idxP p xs)) ∧ Ext w w' := by
  have hm := hr.le
  have hln := hr.len
  have HK := Lib.hid hk
  clear hk
  go_enter Tryz.func139, Tryz.ntmps139
  go_wp2
  go_loopw [8] (fun i wr => ∃ k : Nat, k ≤ n ∧ i = .int .i64 k ∧ (∀ j (hj : j < xs.length), j < k → p xs[j] = false) ∧ Ext w wr) (fun i _ => n - (intOf i).toNat)
  case atStart => exact ⟨0, Nat.zero_le _, rfl, fun j _ h => by omega, Ext.refl _⟩
  case round =>
    obtain ⟨k, hk, rfl, hall, hx⟩ := hrel
    have HA := Lib.hid hall
    clear hall
    by_cases hlt : k < n
    · obtain ⟨b, o, rfl, hbl, hA⟩ := (hr.ext hx).at (by omega)
      obtain ⟨hc0, hc1, hc2, hc3, hc4⟩ := hA k hlt
      clear hA
      have hki : (k : Int) < n := by omega
      have hget : xs[k]'(by omega) = nthName xs k := (nthName_eq (by omega)).symm
      cases hp : p (nthName xs k)
      · have HP := Lib.hid hp
        have HG := Lib.hid hget
        clear hp hget
        go_wp2_with (first | (go_at_call 96; refine (HK.out _ hx k hlt).mono ?_; rintro e w1 ⟨rfl, hx1⟩; rw [HP.out]))
        go_roundw
        case rel =>
          refine ⟨k + 1, by omega, by go_num, fun j hj hjk => ?_, hx.trans hx1⟩
          by_cases e : j = k
          · subst e; rw [HG.out]; exact HP.out
          · exact HA.out j hj (by omega)
        case measure => simp [intOf]; omega
      · have HP := Lib.hid hp
        have HG := Lib.hid hget
        clear hp hget
        go_wp2_with (first | (go_at_call 96; refine (HK.out _ hx k hlt).mono ?_; rintro e w1 ⟨rfl, hx1⟩; rw [HP.out]))
        go_ret
        exact ⟨ret_int (idxP_at (by omega) (by rw [HG.out]; exact HP.out) HA.out).symm, hx.trans hx1⟩
    · obtain rfl : k = n := by omega
      go_wp2
      go_ret
      exact ⟨ret_int (idxP_none (fun j hj => HA.out j hj (by omega))).symm, hx⟩

set_option maxHeartbeats 400000 in
theorem anyNamed_any (a : Option Addr) (n c : Nat) (xs : List NameV) (p : NameV → Bool) (q0 : Addr) (q1 : Addr) (w : World) (hr : RdName w a n xs) (hk : ∀ w1, Ext w w1 → ∀ k, k < n → Calls Tryz.prog 96 #[valName (nthName xs k), .pointer (some q0), .pointer (some q1)] w1 fun e w2 => e = .returned (.bool (p (nthName xs k))) ∧ Ext w1 w2) :
    Calls Tryz.prog 95 #[.slice a n c, .func (.func 96) #[] #[.pointer (some q0), .pointer (some q1)]] w fun e w' => e = .returned (.bool (anyP p xs)) ∧ Ext w w' := by
  go_enter Tryz.func95, Tryz.ntmps95
  go_wp2_with fail
  refine (idxNamed_any _ _ _ _ p _ _ _ hr hk).mono ?_
  rintro e w' ⟨rfl, hx⟩
  go_wp2
  go_ret
  exact ⟨ret_bool rfl, hx⟩

set_option maxRecDepth 100000 in
set_option maxHeartbeats 400000 in
theorem isNamed_any (x : PlaceV) (r : Ref) (s : ByteArray) (y : Int) (w : World) (hx : NamesAt w r x) :
    Calls Tryz.prog 42 #[valPlace x r, .string s, .int .i64 y] w fun e w' => e = .returned (.bool (namedP s y x)) ∧ Ext w w' := by
  obtain ⟨v0, v1, v2, v3, v4⟩ := x
  obtain ⟨ra, rn, rc⟩ := r
  obtain ⟨hna, hcp, hsz, hnn⟩ := hx
  simp only [valPlace, namedP] at hna hcp hsz hnn ⊢
  have xb := (((Ext.refl w).alloc (.cells #[.string v0, .int .i64 v1, .int .i64 v2, .int .i64 v3, .slice ra rn rc] 67)).alloc (.cells #[.string s] 9)).alloc (.cells #[.int .i64 y] 2)
  have k1 : _ = some (Value.string s) := box_keptG ((Ext.refl ((w.alloc (.cells #[.string v0, .int .i64 v1, .int .i64 v2, .int .i64 v3, .slice ra rn rc] 67)).alloc (.cells #[.string s] 9))).alloc (.cells #[.int .i64 y] 2)) 0
  have k2 : _ = some (Value.int .i64 y) := box_keptG (Ext.refl (((w.alloc (.cells #[.string v0, .int .i64 v1, .int .i64 v2, .int .i64 v3, .slice ra rn rc] 67)).alloc (.cells #[.string s] 9)).alloc (.cells #[.int .i64 y] 2))) 0
  simp only [World.size_alloc] at k1 k2
  have H1 := Lib.hid (show HoldsStr _ (w.heap.size + 1) s from ⟨by simp, k1⟩)
  have H2 := Lib.hid (show HoldsInt _ (w.heap.size + 1 + 1) y from ⟨by simp, k2⟩)
  clear k1 k2
  go_enter Tryz.func42, Tryz.ntmps42
  go_wp2_with fail
  refine (anyNamed_any _ _ _ _ (namedX s y) ⟨w.heap.size + 1, 0, none⟩ ⟨w.heap.size + 1 + 1, 0, none⟩ _ (hna.ext xb) (fun w2 hx2 j hj => namedClosure_any _ _ _ _ _ _ (H1.out.ext hx2) (H2.out.ext hx2))).mono ?_
  rintro e w1 ⟨rfl, e1⟩
  go_wp2
  go_ret
  exact ⟨rfl, xb.trans e1⟩

set_option maxRecDepth 100000 in
set_option maxHeartbeats 2000000 in
theorem l11Has_any (x : PlaceV) (r : Ref) (s : ByteArray) (y : Int) (w : World) (hx : NamesAt w r x) :
    Calls Tryz.prog 45 #[valPlace x r, .string s, .int .i64 y] w fun e w' => e = .returned (.bool (namedP s y x)) ∧ Ext w w' := by
  obtain ⟨v0, v1, v2, v3, v4⟩ := x
  obtain ⟨ra, rn, rc⟩ := r
  obtain ⟨hna, hcp, hsz, hnn⟩ := hx
  simp only [valPlace, namedP] at hna hcp hsz hnn ⊢
  have hln : v4.length = rn := hna.len
  have xb := (Ext.refl w).alloc (.cells #[.string v0, .int .i64 v1, .int .i64 v2, .int .i64 v3, .slice ra rn rc] 67)
  go_enter Tryz.func45, Tryz.ntmps45
  go_wp2_with fail
  refine (l09Used_any _ _ _ _ _ _ (hna.ext xb)).mono ?_
  rintro e w1 ⟨v, rfl, a1, n1, c1, rfl, ho, x1⟩
  have hl1 : (usedX v4 y).length = n1 := (usedX_len v4 y).symm.trans ho.rd.len
  have hn1 : n1 ≤ rn := by
    have h1 := selN_len v4.length (hasY v4 y)
    have h2 := ho.rd.len
    rw [usedL] at h2
    omega
  have b4 : _ = some (Value.slice ra rn rc) := box_keptG x1 4
  have bsz : w.heap.size < w1.heap.size := by have := x1.size; simp at this; omega
  go_wp2
  go_loopw [8] (fun i wr => ∃ k : Nat, k ≤ n1 ∧ i = .int .i64 k ∧ (∀ j (hj : j < (usedX v4 y).length), j < k → (nthName v4 (usedX v4 y)[j]).text ≠ s) ∧ Ext w1 wr) (fun i _ => n1 - (intOf i).toNat)
  case atStart => exact ⟨0, Nat.zero_le _, rfl, fun j _ h => by omega, Ext.refl _⟩
  case round =>
    obtain ⟨k, hk, rfl, hall, hx⟩ := hrel
    have HQ := Lib.hid hall
    clear hall
    have b4w := (Below.cell hx (p := ⟨w.heap.size, 4, none⟩) bsz).trans b4
    by_cases hlt : k < n1
    · obtain ⟨b1, o1, rfl, hbl1, hU⟩ := (ho.rd.ext hx).at (by omega)
      have hcu := hU k hlt
      obtain ⟨hu1, hu2⟩ := usedX_get (xs := v4) (y := y) (m := k) (by omega)
      obtain ⟨b, o, rfl, hbl, hA⟩ := (hna.ext (xb.trans (x1.trans hx))).at (by omega)
      rw [hu1] at hcu
      clear hu1 hU
      by_cases ht : (nthName v4 ((usedX v4 y)[k]'(by omega))).text = s
      · have hbe := beqS_eq ht
        have HR := Lib.hid (namedP_at (by omega) ht)
        clear ht
        obtain ⟨p, hp⟩ : ∃ p, p = (usedX v4 y)[k]'(by omega) := ⟨_, rfl⟩
        rw [← hp] at hcu hu2 hbe
        clear hp
        obtain ⟨g0, _⟩ := hA p (by omega)
        have hp0 : (0 : Int) ≤ p := by omega
        have hpi : (p : Int) < rn := by omega
        have hki : (k : Int) < n1 := by omega
        clear hA
        go_wp2
        go_quiet (fail)
        go_wp2
        go_ret
        exact ⟨ret_bool HR.out.symm, (xb.trans (x1.trans hx)).drewN _⟩
      · have hbe := beqS_ne ht
        have HR := Lib.hid ht
        clear ht
        obtain ⟨p, hp⟩ : ∃ p, p = (usedX v4 y)[k]'(by omega) := ⟨_, rfl⟩
        rw [← hp] at hcu hu2 hbe
        have HP := Lib.hid hp
        clear hp
        obtain ⟨g0, _⟩ := hA p (by omega)
        have hp0 : (0 : Int) ≤ p := by omega
        have hpi : (p : Int) < rn := by omega
        have hki : (k : Int) < n1 := by omega
        clear hA
        go_wp2
        go_quiet (fail)
        go_wp2
        go_roundw
        case rel => exact ⟨k + 1, by omega, by go_num, fun j hj hjk => (Nat.lt_succ_iff_lt_or_eq.1 hjk).elim (HQ.out j hj) (fun e => by subst e; exact HR.out), hx.drewN _⟩
        case measure => simp [intOf]; omega
    · obtain rfl : k = n1 := by omega
      have HR := Lib.hid (namedP_none (s := s) (fun j hj => HQ.out j hj (by omega)))
      go_wp2
      go_ret
      exact ⟨ret_bool HR.out.symm, xb.trans (x1.trans hx)⟩

set_option maxRecDepth 100000 in
set_option maxHeartbeats 400000 in
theorem placeNamed_any (x : PlaceV) (r : Ref) (s : ByteArray) (y : Int) (b b2 : Nat) (w : World) (hx : NamesAt w r x) (h1 : HoldsStr w b s) (h2 : HoldsInt w b2 y) :
    Calls Tryz.prog 41 #[valPlace x r, .pointer (some ⟨b, 0, none⟩), .pointer (some ⟨b2, 0, none⟩)] w fun e w' => e = .returned (.bool (namedP s y x)) ∧ Ext w w' := by
  obtain ⟨v0, v1, v2, v3, v4⟩ := x
  obtain ⟨ra, rn, rc⟩ := r
  simp only [valPlace]
  have xb := (Ext.refl w).alloc (.cells #[.string v0, .int .i64 v1, .int .i64 v2, .int .i64 v3, .slice ra rn rc] 67)
  obtain ⟨g1, g2⟩ := h1.ext xb
  obtain ⟨g3, g4⟩ := h2.ext xb
  have HX := Lib.hid (hx.ext xb)
  go_enter Tryz.func41, Tryz.ntmps41
  go_wp2_with fail
  refine (isNamed_any ⟨v0, v1, v2, v3, v4⟩ ⟨ra, rn, rc⟩ s y _ HX.out).mono ?_
  rintro e w1 ⟨rfl, e1⟩
  go_wp2
  go_ret
  exact ⟨rfl, xb.trans e1⟩

set_option maxRecDepth 100000 in
set_option maxHeartbeats 2000000 in
theorem codesNamed_any (a : Option Addr) (n c : Nat) (xs : List PlaceV) (p : PlaceV → Bool) (q0 : Addr) (q1 : Addr) (w : World) (hr : RdPlace w a n xs) (hn : n ≤ 1048576) (hk : ∀ w1, Ext w w1 → ∀ k, k < n → ∀ r, NamesAt w1 r (nthPlace xs k) → Calls Tryz.prog 41 #[valPlace (nthPlace xs k) r, .pointer (some q0), .pointer (some q1)] w1 fun e w2 => e = .returned (.bool (p (nthPlace xs k))) ∧ Ext w1 w2) :
    Calls Tryz.prog 40 #[.slice a n c, .func (.func 41) #[] #[.pointer (some q0), .pointer (some q1)]] w fun e w' => ∃ v, e = .returned v ∧ ∃ a1 n1 c1, v = .slice a1 n1 c1 ∧ n1 ≤ n ∧ OwnS w' w.heap.size a1 n1 c1 (pickL p PlaceV.code xs n) ∧ Ext w w' := by
  obtain ⟨f, hr⟩ := hr
  have hm := hr.le
  have hln := hr.len
  have HC := Lib.hid hk
  clear hk
  go_enter Tryz.func40, Tryz.ntmps40
  go_wp2
  go_loopw [5, 10] (fun v i wr => ∃ (k : Nat) (l : List ByteArray) (a1 : Option Addr) (c1 : Nat), k ≤ n ∧ i = .int .i64 k ∧ v = .slice a1 l.length c1 ∧ l = pickL p PlaceV.code xs k ∧ OwnG layS 9 wr w.heap.size a1 l.length c1 l ∧ Ext w wr) (fun _ i _ => n - (intOf i).toNat)
  case atStart => exact ⟨0, [], _, _, Nat.zero_le _, rfl, rfl, (pick_zero _ _ _).symm, OwnG.isNil _ _ _ _, Ext.refl _⟩
  case round =>
    obtain ⟨k, l, a1, c1, hk, rfl, rfl, hl, ho, hx⟩ := hrel
    have HL := Lib.hid hl
    have hll : l.length ≤ k := by rw [hl]; exact pick_len _ _ _ _
    clear hl
    by_cases hlt : k < n
    · obtain ⟨b, o, rfl, hbl, hA⟩ := (hr.ext hx).at (by omega)
      obtain ⟨hc0, hc1, hc2, hc3, hc4⟩ := hA k hlt
      have hna := (hr.ext hx).2 k hlt
      have hki : (k : Int) < n := by omega
      have xb := (Ext.refl wr).alloc (.cells #[.string (nthPlace xs k).code, .int .i64 (nthPlace xs k).klass, .int .i64 (nthPlace xs k).from_, .int .i64 (nthPlace xs k).to_, .slice (f k).a (f k).n (f k).c] 67)
      have hxA := hx.trans xb
      have hoA := ho.ext xb
      have hget : xs[k]? = some (nthPlace xs k) := by rw [nthPlace_eq (by omega)]; exact List.getElem?_eq_getElem (by omega)
      clear hA
      cases hp : p (nthPlace xs k)
      · have HS := Lib.hid (And.intro (pick_out (p := p) (f := PlaceV.code) hget hp) hp)
        clear hp hget
        go_wp2_with fail
        refine (HC.out _ hxA k hlt (f k) (hna.ext xb)).mono ?_
        rintro e w1 ⟨rfl, e1⟩
        rw [HS.out.2]
        go_wp2
        go_roundw
        case rel => exact ⟨k + 1, l, a1, c1, by omega, by go_num, rfl, by rw [HS.out.1, ← HL.out], hoA.ext e1, hxA.trans e1⟩
        case measure => simp [intOf]; omega
      · have HS := Lib.hid (And.intro (pick_in (p := p) (f := PlaceV.code) hget hp) hp)
        clear hp hget
        go_wp2_with fail
        refine (HC.out _ hxA k hlt (f k) (hna.ext xb)).mono ?_
        rintro e w1 ⟨rfl, e1⟩
        rw [HS.out.2]
        have b0 : _ = some (Value.string (nthPlace xs k).code) := box_keptG e1 0
        have hoE := hoA.ext e1
        have hxE := hxA.trans e1
        clear e1 hoA hxA ho hx xb
        go_wp2_with (first | (at_builtin; refine wpList_appG layS rfl _ _ 27 9 rfl Tryz.underlying27 (.string ⟨#[]⟩) 16 Tryz.info_string rfl (by decide) w.heap.size _ l.length _ l rfl (hoE.alloc _) _ 1 _ [(nthPlace xs k).code] rfl (RdG.new1 layS _ _ _ rfl _) (by omega) (hxE.alloc _).size ?_; intro a2 c2 w2 hown hgrow; have hb2 := hxE.appG hoE (Nat.le_refl _) hgrow; have HO := Lib.hid hown; clear hown))
        go_roundw
        case rel => exact ⟨k + 1, l ++ [(nthPlace xs k).code], a2, c2, by omega, by go_num, by simp, by rw [HS.out.1, ← HL.out], by simpa using HO.out, hb2⟩
        case measure => simp [intOf]; omega
    · obtain rfl : k = n := by omega
      go_wp2
      go_ret
      refine ⟨_, rfl, a1, l.length, c1, rfl, hll, ?_, hx⟩
      rw [← HL.out]
      refine ⟨ho, fun z hz => ?_⟩
      rw [HL.out] at hz
      obtain ⟨x, hx', _, rfl⟩ := pick_mem hz
      obtain ⟨j, hj, rfl⟩ := List.getElem_of_mem hx'
      have := (hr.2 j (by omega)).2.2.1
      rwa [nthPlace_eq hj] at this

def nmL (xs : List PlaceV) (s : ByteArray) (y : Int) : List ByteArray := if codeP xs (phraseB s) y = 0 then pickL (namedP s y) PlaceV.code xs xs.length else []

set_option maxRecDepth 100000 in
set_option maxHeartbeats 1000000 in
theorem implPlacesNamed_any (a : Option Addr) (n c : Nat) (s : ByteArray) (y : Int) (xs : List PlaceV) (w : World) (hr : RdPlace w a n xs) (hcap : n ≤ c) (hs : s.size ≤ 1073741824) (hmax : MaxW w) :
    Calls Tryz.prog 7 #[.slice a n c, .string s, .int .i64 y] w (RetTC w (nmL xs s y) (codeP xs (phraseB s) y)) := by
  have hln := hr.len
  have xb := ((Ext.refl w).alloc (.cells #[.string s] 9)).alloc (.cells #[.int .i64 y] 2)
  have k1 : _ = some (Value.string s) := box_keptG ((Ext.refl (w.alloc (.cells #[.string s] 9))).alloc (.cells #[.int .i64 y] 2)) 0
  have k2 : _ = some (Value.int .i64 y) := box_keptG (Ext.refl ((w.alloc (.cells #[.string s] 9)).alloc (.cells #[.int .i64 y] 2))) 0
  rw [World.size_alloc] at k2
  have H1 := Lib.hid (show HoldsStr _ w.heap.size s from ⟨by simp; omega, k1⟩)
  have H2 := Lib.hid (show HoldsInt _ (w.heap.size + 1) y from ⟨by simp, k2⟩)
  by_cases hc : codeP xs (phraseB s) y = 0
  · have hL : nmL xs s y = pickL (namedP s y) PlaceV.code xs n := by rw [nmL, if_pos hc, hln]
    have hlen := (regB_at (codeP_zero hc).1).2
    have HZ := Lib.hid (And.intro hc hL)
    clear hc hL
    go_enter Tryz.func7, Tryz.ntmps7
    go_wp2
    first | (go_region_law (first | (go_simp; go_at_call 39; refine (implIsPhrase_any _ _ hs (hmax.ext (xb.trans (Ext.refl _).drew))).mono ?_; rintro e w1 ⟨rfl, e0⟩; have xc := xb.trans ((Ext.refl _).drew.trans e0); have G1 := Lib.hid (H1.out.ext ((Ext.refl _).drew.trans e0)); have G2 := Lib.hid (H2.out.ext ((Ext.refl _).drew.trans e0)); have z1 := G2.out.2) | (go_simp; go_at_call 38; refine (registerCode_any _ _ _ _ _ _ _ (hr.ext xc) hcap (hmax.ext xc)).mono ?_; rintro e w2 ⟨rfl, e1⟩; rw [HZ.out.1]))) | fail
    all_goals
      go_wp2_with fail
      refine (codesNamed_any _ _ _ xs (namedP s y) ⟨w.heap.size, 0, none⟩ ⟨w.heap.size + 1, 0, none⟩ _ (hr.ext (xc.trans e1)) (by omega) (fun w2 hx k hk r hr => placeNamed_any _ _ _ _ _ _ _ hr ((G1.out.ext e1).ext hx) ((G2.out.ext e1).ext hx))).mono ?_
      rintro e w3 ⟨v, rfl, a1, n1, c1, rfl, hn1, o2, e2⟩
      go_wp2
      go_ret2
      rw [HZ.out.1, HZ.out.2]
      exact ⟨_, rfl, a1, n1, c1, rfl, by omega, o2.mono (xc.trans e1).size, (xc.trans e1).trans e2⟩
  · have hb : (codeP xs (phraseB s) y == 0) = false := by simpa using hc
    have HZ := Lib.hid (show nmL xs s y = [] from if_neg hc)
    clear hc
    go_enter Tryz.func7, Tryz.ntmps7
    go_wp2
    first | (go_region_law (first | (go_simp; go_at_call 39; refine (implIsPhrase_any _ _ hs (hmax.ext (xb.trans (Ext.refl _).drew))).mono ?_; rintro e w1 ⟨rfl, e0⟩; have xc := xb.trans ((Ext.refl _).drew.trans e0); have G1 := Lib.hid (H1.out.ext ((Ext.refl _).drew.trans e0)); have G2 := Lib.hid (H2.out.ext ((Ext.refl _).drew.trans e0)); have z1 := G2.out.2) | (go_simp; go_at_call 38; refine (registerCode_any _ _ _ _ _ _ _ (hr.ext xc) hcap (hmax.ext xc)).mono ?_; rintro e w2 ⟨rfl, e1⟩))) | fail
    all_goals
      go_wp2
      go_ret2
      rw [HZ.out]
      exact ⟨_, rfl, _, _, _, rfl, by omega, ⟨OwnG.isNil _ _ _ _, by simp⟩, xc.trans e1⟩

set_option maxRecDepth 100000 in
set_option maxHeartbeats 2000000 in
theorem specPlacesNamed_any (a : Option Addr) (n c : Nat) (s : ByteArray) (y : Int) (xs : List PlaceV) (w : World) (hr : RdPlace w a n xs) (hs : s.size ≤ 1073741824) :
    Calls Tryz.prog 8 #[.slice a n c, .string s, .int .i64 y] w (RetTC w (nmL xs s y) (codeP xs (phraseB s) y)) := by
  have hln := hr.len
  cases hp : phraseB s
  · have hc1 : codeP xs false y = 1 := codeP_bad (.inr rfl)
    have hL : nmL xs s y = [] := if_neg (by rw [hp, hc1]; decide)
    have HZ := Lib.hid (And.intro hp (And.intro hc1 hL))
    clear hp hc1 hL
    go_enter Tryz.func8, Tryz.ntmps8
    go_wp2_with fail
    refine (specIsPhrase_any _ _ hs).mono ?_
    rintro e w1 ⟨rfl, e1⟩
    rw [HZ.out.1]
    go_wp2
    go_ret2
    rw [HZ.out.2.1, HZ.out.2.2]
    exact ⟨_, rfl, _, _, _, rfl, by omega, ⟨OwnG.isNil _ _ _ _, by simp⟩, e1⟩
  by_cases hc : codeP xs true y = 0
  · have hL : nmL xs s y = pickL (namedP s y) PlaceV.code xs n := by rw [nmL, hp, if_pos hc, hln]
    have hlen := (regB_at (codeP_zero hc).1).2
    have HZ := Lib.hid (And.intro hc hL)
    have HP := Lib.hid hp
    clear hc hL hp
    obtain ⟨f, hr⟩ := hr
    go_enter Tryz.func8, Tryz.ntmps8
    go_wp2_with fail
    refine (specIsPhrase_any _ _ hs).mono ?_
    rintro e w1 ⟨rfl, e0⟩
    rw [HP.out]
    go_wp2_with fail
    refine (l11Year_any _ _ _ _ _ _ ⟨f, hr.ext e0⟩).mono ?_
    rintro e w2 ⟨rfl, e1⟩
    have e0 := e0.trans e1
    rw [HZ.out.1]
    go_wp2
    go_loopw [9, 10] (fun v i wr => ∃ (k : Nat) (l : List ByteArray) (a1 : Option Addr) (c1 : Nat), k ≤ n ∧ i = .int .i64 k ∧ v = .slice a1 l.length c1 ∧ l = pickL (namedP s y) PlaceV.code xs k ∧ OwnG layS 9 wr w.heap.size a1 l.length c1 l ∧ Ext w wr) (fun _ i _ => n - (intOf i).toNat)
    case atStart => exact ⟨0, [], _, _, Nat.zero_le _, rfl, rfl, (pick_zero _ _ _).symm, OwnG.lit layS 9 _ e0.size [] #[] rfl (by simp), e0.alloc _⟩
    case round =>
      obtain ⟨k, l, a1, c1, hk, rfl, rfl, hl, ho, hx⟩ := hrel
      have HL := Lib.hid hl
      have hll : l.length ≤ k := by rw [hl]; exact pick_len _ _ _ _
      clear hl
      by_cases hlt : k < n
      · obtain ⟨b, o, rfl, hbl, hA⟩ := (hr.ext hx).at (by omega)
        have hna := (hr.ext hx).2 k hlt
        obtain ⟨hc0, hc1, hc2, hc3, hc4⟩ := hA k hlt
        have hki : (k : Int) < n := by omega
        have hget : xs[k]? = some (nthPlace xs k) := by rw [nthPlace_eq (by omega)]; exact List.getElem?_eq_getElem (by omega)
        clear hA
        cases hp : namedP s y (nthPlace xs k)
        · have HS := Lib.hid (And.intro (pick_out (p := namedP s y) (f := PlaceV.code) hget hp) hp)
          clear hp hget
          go_wp2_with fail
          refine (l11Has_any (nthPlace xs k) (f k) s y _ hna).mono ?_
          rintro e w2 ⟨rfl, e1⟩
          rw [HS.out.2]
          go_wp2
          go_roundw
          case rel => exact ⟨k + 1, l, a1, c1, by omega, by go_num, rfl, by rw [HS.out.1, ← HL.out], ho.ext e1, hx.trans e1⟩
          case measure => simp [intOf]; omega
        · have HS := Lib.hid (And.intro (pick_in (p := namedP s y) (f := PlaceV.code) hget hp) hp)
          clear hp hget
          go_wp2_with fail
          refine (l11Has_any (nthPlace xs k) (f k) s y _ hna).mono ?_
          rintro e w2 ⟨rfl, e1⟩
          rw [HS.out.2]
          have b0 : _ = some (Value.string (nthPlace xs k).code) := (Below.cell e1 (p := ⟨b, o + k * 5, none⟩) hbl).trans hc0
          have hoE := ho.ext e1
          have hxE := hx.trans e1
          clear e1 ho hx hna
          go_wp2_with (first | (at_builtin; refine wpList_appG layS rfl _ _ 27 9 rfl Tryz.underlying27 (.string ⟨#[]⟩) 16 Tryz.info_string rfl (by decide) w.heap.size _ l.length _ l rfl (hoE.alloc _) _ 1 _ [(nthPlace xs k).code] rfl (RdG.new1 layS _ _ _ rfl _) (by omega) (hxE.alloc _).size ?_; intro a2 c2 w2 hown hgrow; have hb2 := hxE.appG hoE (Nat.le_refl _) hgrow; have HO := Lib.hid hown; clear hown))
          go_roundw
          case rel => exact ⟨k + 1, l ++ [(nthPlace xs k).code], a2, c2, by omega, by go_num, by simp, by rw [HS.out.1, ← HL.out], by simpa using HO.out, hb2⟩
          case measure => simp [intOf]; omega
      · obtain rfl : k = n := by omega
        go_wp2
        go_ret2
        rw [HZ.out.1, HZ.out.2, ← HL.out]
        refine ⟨_, rfl, a1, l.length, c1, rfl, by omega, ⟨ho, fun z hz => ?_⟩, hx⟩
        rw [HL.out] at hz
        obtain ⟨x, hx', _, rfl⟩ := pick_mem hz
        obtain ⟨j, hj, rfl⟩ := List.getElem_of_mem hx'
        have := (hr.2 j (by omega)).2.2.1
        rwa [nthPlace_eq hj] at this
  · have hb : (codeP xs true y == 0) = false := by simpa using hc
    have HZ := Lib.hid (show nmL xs s y = [] by rw [nmL, hp, if_neg hc])
    have HP := Lib.hid hp
    clear hc hp
    go_enter Tryz.func8, Tryz.ntmps8
    go_wp2_with fail
    refine (specIsPhrase_any _ _ hs).mono ?_
    rintro e w1 ⟨rfl, e0⟩
    rw [HP.out]
    go_wp2_with fail
    refine (l11Year_any _ _ _ _ _ _ (hr.ext e0)).mono ?_
    rintro e w2 ⟨rfl, e1⟩
    go_wp2
    go_ret2
    rw [HZ.out]
    exact ⟨_, rfl, _, _, _, rfl, by omega, ⟨OwnG.isNil _ _ _ _, by simp⟩, e0.trans e1⟩

end Go.Proofs.YtjelmidkkpchkaaGreatDoor
