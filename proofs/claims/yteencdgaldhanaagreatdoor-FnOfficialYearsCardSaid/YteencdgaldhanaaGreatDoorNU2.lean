/-
  UsedIn and OfficialIn on both sides.
-/
import Derived.Test.YteencdgaldhanaaGreatDoorNU
namespace Go.Proofs.YteencdgaldhanaaGreatDoor
open Go.RowKit

set_option maxRecDepth 100000 in
set_option maxHeartbeats 400000 in
theorem l09Code_any (a : Option Addr) (n c : Nat) (s : ByteArray) (y : Int) (xs : List NameV) (w : World) (hr : RdName w a n xs) (hs : s.size ≤ 9223372036854775807) :
    Calls Tryz.prog 42 #[.slice a n c, .string s, .int .i64 y] w fun e w' => e = .returned (.int .i64 (codeN xs (langB s) y)) ∧ Ext w w' := by
  cases hn : namesB xs
  · have HN := Lib.hid hn
    clear hn
    go_enter Tryz.func42, Tryz.ntmps42
    go_wp2_with fail
    refine (specAreNames_any _ _ _ _ _ hr).mono ?_
    rintro e w1 ⟨rfl, e1⟩
    rw [HN.out]
    go_wp2
    go_ret
    exact ⟨ret_int (codeN_bad (.inl HN.out)).symm, e1⟩
  cases hl : langB s
  · have HN := Lib.hid hn
    have HL := Lib.hid hl
    clear hn hl
    go_enter Tryz.func42, Tryz.ntmps42
    go_wp2_with fail
    refine (specAreNames_any _ _ _ _ _ hr).mono ?_
    rintro e w1 ⟨rfl, e1⟩
    rw [HN.out]
    go_wp2_with (first | (go_at_call 68; refine (l09Language_any _ _ hs).mono ?_; rintro e w' ⟨rfl, rfl⟩; rw [HL.out]))
    go_ret
    exact ⟨ret_int (codeN_bad (.inr rfl)).symm, e1⟩
  cases hy : inB y (-3000) 3000
  all_goals
    have HN := Lib.hid hn
    have HL := Lib.hid hl
    have HY := Lib.hid hy
    clear hn hl hy
    go_enter Tryz.func42, Tryz.ntmps42
    go_wp2_with fail
    refine (specAreNames_any _ _ _ _ _ hr).mono ?_
    rintro e w1 ⟨rfl, e1⟩
    rw [HN.out]
    go_wp2_with (first | (go_at_call 68; refine (l09Language_any _ _ hs).mono ?_; rintro e w' ⟨rfl, rfl⟩; rw [HL.out]) | (go_at_call 79; refine (l02Year_any _ _).mono ?_; rintro e w' ⟨rfl, rfl⟩; rw [HY.out]))
    go_ret
  · exact ⟨ret_int (codeN_range HN.out rfl HY.out).symm, e1⟩
  · exact ⟨ret_int (codeN_ok HN.out rfl HY.out).symm, e1⟩

def usedR (xs : List NameV) (y : Int) : List Int := if codeN xs true y = 0 then usedL xs y else []
theorem aa_lang : langB ⟨#[97, 97]⟩ = true := by decide

set_option maxRecDepth 100000 in
set_option maxHeartbeats 400000 in
theorem specUsedIn_any (a : Option Addr) (n c : Nat) (y : Int) (xs : List NameV) (w : World) (hr : RdName w a n xs) :
    Calls Tryz.prog 21 #[.slice a n c, .int .i64 y] w (RetLC w (usedR xs y) (codeN xs true y)) := by
  by_cases hc : codeN xs true y = 0
  · have hz : usedR xs y = usedL xs y ∧ codeN xs true y = 0 := ⟨by rw [usedR, if_pos hc], hc⟩
    have HZ := Lib.hid hz
    clear hz hc
    go_enter Tryz.func21, Tryz.ntmps21
    go_wp2_with fail
    refine (l09Code_any _ _ _ ⟨#[97, 97]⟩ _ _ _ hr (by decide)).mono ?_
    rintro e w1 ⟨rfl, e1⟩
    rw [aa_lang, HZ.out.2]
    go_wp2_with fail
    refine (l09Used_any _ _ _ _ _ _ (hr.ext e1)).mono ?_
    rintro e w2 ⟨v, rfl, hv⟩
    go_wp2
    go_ret2
    rw [RetLC, HZ.out.1, HZ.out.2]
    exact ⟨_, rfl, NewI.pre e1 hv⟩
  · have hz : usedR xs y = [] := by rw [usedR, if_neg hc]
    have hb : (codeN xs true y == 0) = false := by simpa using hc
    have HZ := Lib.hid hz
    clear hz hc
    go_enter Tryz.func21, Tryz.ntmps21
    go_wp2_with fail
    refine (l09Code_any _ _ _ ⟨#[97, 97]⟩ _ _ _ hr (by decide)).mono ?_
    rintro e w1 ⟨rfl, e1⟩
    rw [aa_lang]
    go_wp2
    go_ret2
    rw [RetLC, HZ.out]
    exact ⟨_, rfl, NewI.nil _ _ e1⟩

set_option maxRecDepth 100000 in
set_option maxHeartbeats 1000000 in
theorem implUsedIn_any (a : Option Addr) (n c : Nat) (y : Int) (xs : List NameV) (w : World) (hr : RdName w a n xs) (hcap : n ≤ c) (hmax : MaxW w) :
    Calls Tryz.prog 20 #[.slice a n c, .int .i64 y] w (RetLC w (usedR xs y) (codeN xs true y)) := by
  have hm := hr.le
  have hln := hr.len
  cases hn : namesB xs
  · have hz : usedR xs y = [] ∧ codeN xs true y = 1 := ⟨by rw [usedR, if_neg (by rw [codeN_bad (.inl hn)]; decide)], codeN_bad (.inl hn)⟩
    have HN := Lib.hid (And.intro hn hz)
    clear hn hz
    go_enter Tryz.func20, Tryz.ntmps20
    go_wp2_with fail
    refine (implAreNames_any _ _ _ _ _ hr hcap hmax).mono ?_
    rintro e w1 ⟨rfl, e1⟩
    rw [HN.out.1]
    go_wp2
    go_ret2
    rw [RetLC, HN.out.2.1, HN.out.2.2]
    exact ⟨_, rfl, NewI.nil _ _ e1⟩
  cases hy : inB y (-3000) 3000
  · have hz : usedR xs y = [] ∧ codeN xs true y = 2 := ⟨by rw [usedR, if_neg (by rw [codeN_range hn rfl hy]; decide)], codeN_range hn rfl hy⟩
    have HN := Lib.hid (And.intro hn (And.intro hy hz))
    clear hn hz hy
    go_enter Tryz.func20, Tryz.ntmps20
    go_wp2_with fail
    refine (implAreNames_any _ _ _ _ _ hr hcap hmax).mono ?_
    rintro e w1 ⟨rfl, e1⟩
    rw [HN.out.1]
    go_wp2_with (first | (go_at_call 61; refine (isYear_any _ _).mono ?_; rintro e w' ⟨rfl, rfl⟩; rw [HN.out.2.1]))
    go_ret2
    rw [RetLC, HN.out.2.2.1, HN.out.2.2.2]
    exact ⟨_, rfl, NewI.nil _ _ e1⟩
  · have hz : usedR xs y = usedL xs y ∧ codeN xs true y = 0 := ⟨by rw [usedR, if_pos (codeN_ok hn rfl hy)], codeN_ok hn rfl hy⟩
    have HN := Lib.hid (And.intro hn (And.intro hy hz))
    clear hn hz hy
    go_enter Tryz.func20, Tryz.ntmps20
    go_wp2_with fail
    refine (implAreNames_any _ _ _ _ _ hr hcap hmax).mono ?_
    rintro e w1 ⟨rfl, e1⟩
    rw [HN.out.1]
    go_wp2_with (first | (go_at_call 61; refine (isYear_any _ _).mono ?_; rintro e w' ⟨rfl, rfl⟩; rw [HN.out.2.1]))
    go_loopw [6, 19] (fun v i wr => ∃ k : Nat, k ≤ n ∧ i = .int .i64 k ∧ OwnV wr w.heap.size v (selN k (hasY xs y)) ∧ Ext w wr) (fun _ i _ => n - (intOf i).toNat)
    case atStart => exact ⟨0, Nat.zero_le _, rfl, OwnV.isNil _ _, e1⟩
    case round =>
      obtain ⟨k, hk, rfl, ⟨a1, n1, c1, rfl, ho⟩, hb⟩ := hrel
      by_cases hlt : k < n
      · have hn1 : n1 ≤ k := by
          have h1 := ho.rd.len
          have h2 := selN_len k (hasY xs y)
          omega
        obtain ⟨b, o, rfl, hbl, hA⟩ := (hr.ext hb).at (by omega)
        obtain ⟨hc0, hc1, hc2, hc3, hc4⟩ := hA k hlt
        clear hA
        have hki : (k : Int) < n := by omega
        cases h : hasY xs y k
        · have hyy := selN_no h
          have HH := Lib.hid (And.intro h hyy)
          clear h hyy
          go_wp2_with fail
          refine (has_any ⟨(nthName xs k).from_, (nthName xs k).to_⟩ _ _).mono ?_
          rintro e w2 ⟨rfl, e2⟩
          rw [show inB y (nthName xs k).from_ (nthName xs k).to_ = false from HH.out.1]
          have hx := (hb.alloc (.cells #[.string (nthName xs k).text, .string (nthName xs k).lang, .int .i64 (nthName xs k).status, .int .i64 (nthName xs k).from_, .int .i64 (nthName xs k).to_] 62)).trans e2
          have hoo := ho.ext (((Ext.refl _).alloc _).trans e2)
          have HX := Lib.hid (And.intro hx hoo)
          clear hx hoo
          go_wp2
          go_roundw
          case rel => exact ⟨k + 1, by omega, by go_num, ⟨_, _, _, rfl, by rw [HH.out.2]; exact HX.out.2⟩, HX.out.1⟩
          case measure => simp [intOf]; omega
        · have hyy := selN_yes h
          have HH := Lib.hid (And.intro h hyy)
          clear h hyy
          go_wp2_with fail
          refine (has_any ⟨(nthName xs k).from_, (nthName xs k).to_⟩ _ _).mono ?_
          rintro e w2 ⟨rfl, e2⟩
          rw [show inB y (nthName xs k).from_ (nthName xs k).to_ = true from HH.out.1]
          have hb' := (hb.alloc (.cells #[.string (nthName xs k).text, .string (nthName xs k).lang, .int .i64 (nthName xs k).status, .int .i64 (nthName xs k).from_, .int .i64 (nthName xs k).to_] 62)).trans e2
          have ho' := ho.ext (((Ext.refl _).alloc (.cells #[.string (nthName xs k).text, .string (nthName xs k).lang, .int .i64 (nthName xs k).status, .int .i64 (nthName xs k).from_, .int .i64 (nthName xs k).to_] 62)).trans e2)
          go_wp2_with (first | (at_builtin; refine wpList_appI rfl _ _ rfl w.heap.size _ n1 _ rfl (ho'.alloc _) _ 1 _ [(k : Int)] rfl (RdI.new1 _ _ _) (by omega) (hb'.le_alloc _) ?_; intro a2 c2 w3 hown hgrow; have hb2 := hb'.app ho' (Nat.le_refl _) hgrow; have HO := Lib.hid hown; clear hown))
          go_roundw
          case rel => exact ⟨k + 1, by omega, by go_num, ⟨_, _, _, rfl, by rw [HH.out.2]; exact HO.out⟩, hb2⟩
          case measure => simp [intOf]; omega
      · obtain rfl : k = n := by omega
        go_wp2
        go_ret2
        rw [RetLC, HN.out.2.2.1, HN.out.2.2.2]
        exact ⟨_, rfl, _, _, _, rfl, by rw [usedL, hln]; exact ho, hb⟩

/-! The official name. -/
def offY (lang : ByteArray) (y : Int) (x : NameV) : Bool := offB x lang && inB y x.from_ x.to_
def offI (xs : List NameV) (lang : ByteArray) (y : Int) : Int := idxP (offY lang y) xs

set_option maxRecDepth 100000 in
set_option maxHeartbeats 1000000 in
theorem l09Official_any (a : Option Addr) (n c : Nat) (s : ByteArray) (y : Int) (xs : List NameV) (w : World) (hr : RdName w a n xs) :
    Calls Tryz.prog 57 #[.slice a n c, .string s, .int .i64 y] w fun e w' => e = .returned (.int .i64 (offI xs s y)) ∧ Ext w w' := by
  have hm := hr.le
  have hln := hr.len
  go_enter Tryz.func57, Tryz.ntmps57
  go_wp2_with fail
  refine (l09Used_any _ _ _ _ _ _ hr).mono ?_
  rintro e w1 ⟨v, rfl, a1, n1, c1, rfl, o1, x1⟩
  have hl1 := o1.rd.len
  have hle1 := o1.rd.le
  go_wp2
  go_loopw [8] (fun i wr => ∃ m : Nat, m ≤ n1 ∧ i = .int .i64 m ∧ (∀ j, j < m → ∀ k : Nat, nth (usedL xs y) j = (k : Nat) → offB (nthName xs k) s = false) ∧ Ext w1 wr) (fun i _ => n1 - (intOf i).toNat)
  case atStart => exact ⟨0, Nat.zero_le _, rfl, fun j h => by omega, Ext.refl _⟩
  case round =>
    obtain ⟨m, hmn, rfl, hall, hx⟩ := hrel
    have HA := Lib.hid hall
    clear hall
    by_cases hlt : m < n1
    · obtain ⟨i, hin, hip, hie⟩ := selN_at (n := xs.length) (p := hasY xs y) (m := m) (by rw [← usedL, hl1]; exact hlt)
      obtain ⟨b1, o1', rfl, hbl1, hc1⟩ := (o1.rd.ext hx).at (by omega)
      have hck := hc1 m hlt
      rw [show nth (usedL xs y) m = (i : Int) from hie] at hck
      obtain ⟨b, o, rfl, hbl, hA⟩ := (hr.ext (x1.trans hx)).at (by omega)
      obtain ⟨hc0, hcl, hc2, hc3, hc4⟩ := hA i (by omega)
      have hii : (i : Int) < n := by omega
      have hi0 : (0 : Int) ≤ i := by omega
      have hmi : (m : Int) < n1 := by omega
      have hkp := (Below.cell ((Ext.refl wr).alloc (.cells #[.string (nthName xs i).text, .string (nthName xs i).lang, .int .i64 (nthName xs i).status, .int .i64 (nthName xs i).from_, .int .i64 (nthName xs i).to_] 62)) (p := ⟨b1, o1' + m, none⟩) hbl1).trans hck
      clear hA hc1
      have HI := Lib.hid (And.intro hie (And.intro hin hip))
      clear hie
      by_cases s1 : (nthName xs i).status = 0
      · have hs1 : ((nthName xs i).status == 0) = true := by simpa using s1
        have S1 := Lib.hid s1
        clear s1
        by_cases hl : (nthName xs i).lang = s
        · have hbs := beqS_eq hl
          have HL := Lib.hid hl
          clear hl
          go_wp2
          go_ret
          refine ⟨ret_int ?_, (x1.trans hx).alloc _⟩
          have hq : offB (nthName xs i) s = true := by rw [offB, S1.out, HL.out]; simp
          obtain ⟨_, _, hno⟩ := selN_first (n := xs.length) (p := hasY xs y) (q := fun k => offB (nthName xs k) s) (m := m) (i := i) (by rw [← usedL, hl1]; exact hlt) HI.out.1 hq HA.out
          refine (idxP_at (k := i) HI.out.2.1 (by rw [← nthName_eq HI.out.2.1, offY, hq]; exact HI.out.2.2) fun j hj hji => ?_).symm
          rw [← nthName_eq hj, offY, Bool.and_comm]
          exact hno j hji
        · have hbs := beqS_ne hl
          have HL := Lib.hid hl
          clear hl
          go_wp2
          go_roundw
          case rel =>
            refine ⟨m + 1, by omega, by go_num, fun j hj k hk => ?_, hx.alloc _⟩
            by_cases e : j = m
            · subst e
              obtain rfl : i = k := by have h1 := HI.out.1; rw [usedL] at hk; omega
              rw [offB]; simp [HL.out]
            · exact HA.out j (by omega) k hk
          case measure => simp [intOf]; omega
      · have hs1 : ((nthName xs i).status == 0) = false := by simpa using s1
        have S1 := Lib.hid s1
        clear s1
        go_wp2
        go_roundw
        case rel =>
          refine ⟨m + 1, by omega, by go_num, fun j hj k hk => ?_, hx.alloc _⟩
          by_cases e : j = m
          · subst e
            obtain rfl : i = k := by have h1 := HI.out.1; rw [usedL] at hk; omega
            rw [offB]; simp [S1.out]
          · exact HA.out j (by omega) k hk
        case measure => simp [intOf]; omega
    · obtain rfl : m = n1 := by omega
      go_wp2
      go_ret
      refine ⟨ret_int (idxP_none fun j hj => ?_).symm, x1.trans hx⟩
      rw [← nthName_eq hj, offY, Bool.and_comm]
      exact selN_none (q := fun k => offB (nthName xs k) s) (fun i hi k hk => HA.out i (by rw [← usedL, hl1] at hi; exact hi) k hk) j hj

/-- What OfficialIn answers. -/
def offC (xs : List NameV) (s : ByteArray) (y : Int) : Int := if codeN xs (langB s) y = 0 then (if offI xs s y < 0 then 4 else 0) else codeN xs (langB s) y
def offV (xs : List NameV) (s : ByteArray) (y : Int) : Int := if codeN xs (langB s) y = 0 ∧ 0 ≤ offI xs s y then offI xs s y else 0
theorem off_code {xs : List NameV} {s : ByteArray} {y : Int} (h : codeN xs (langB s) y ≠ 0) : offV xs s y = 0 ∧ offC xs s y = codeN xs (langB s) y := ⟨if_neg fun h2 => h h2.1, if_neg h⟩
theorem off_none {xs : List NameV} {s : ByteArray} {y : Int} (h : codeN xs (langB s) y = 0) (h2 : offI xs s y < 0) : offV xs s y = 0 ∧ offC xs s y = 4 := ⟨if_neg fun h3 => by omega, by rw [offC, if_pos h, if_pos h2]⟩
theorem off_some {xs : List NameV} {s : ByteArray} {y : Int} (h : codeN xs (langB s) y = 0) (h2 : ¬ offI xs s y < 0) : offV xs s y = offI xs s y ∧ offC xs s y = 0 := ⟨if_pos ⟨h, by omega⟩, by rw [offC, if_pos h, if_neg h2]⟩

set_option maxRecDepth 100000 in
set_option maxHeartbeats 400000 in
theorem specOfficialIn_any (a : Option Addr) (n c : Nat) (s : ByteArray) (y : Int) (xs : List NameV) (w : World) (hr : RdName w a n xs) (hs : s.size ≤ 9223372036854775807) :
    Calls Tryz.prog 24 #[.slice a n c, .string s, .int .i64 y] w (RetIC w (offV xs s y) (offC xs s y)) := by
  by_cases hc : codeN xs (langB s) y = 0
  · by_cases h2 : offI xs s y < 0
    all_goals
      have hz := hc
      have HZ := Lib.hid hz
      clear hz hc
      go_enter Tryz.func24, Tryz.ntmps24
      go_wp2_with fail
      refine (l09Code_any _ _ _ _ _ _ _ hr hs).mono ?_
      rintro e w1 ⟨rfl, e1⟩
      rw [HZ.out]
      go_wp2_with fail
      refine (l09Official_any _ _ _ _ _ _ _ (hr.ext e1)).mono ?_
      rintro e w2 ⟨rfl, e2⟩
      go_wp2
      go_ret2
    · rw [RetIC, (off_none HZ.out h2).1, (off_none HZ.out h2).2]
      exact ⟨rfl, e1.trans e2⟩
    · rw [RetIC, (off_some HZ.out (by omega)).1, (off_some HZ.out (by omega)).2]
      exact ⟨rfl, e1.trans e2⟩
  · have hb : (codeN xs (langB s) y == 0) = false := by simpa using hc
    have HZ := Lib.hid (off_code hc)
    clear hc
    go_enter Tryz.func24, Tryz.ntmps24
    go_wp2_with fail
    refine (l09Code_any _ _ _ _ _ _ _ hr hs).mono ?_
    rintro e w1 ⟨rfl, e1⟩
    go_wp2
    go_ret2
    rw [RetIC, HZ.out.1, HZ.out.2]
    exact ⟨rfl, e1⟩

set_option maxRecDepth 100000 in
set_option maxHeartbeats 400000 in
theorem offClosure_any (x : NameV) (s : ByteArray) (y : Int) (b b2 : Nat) (w : World) (hb : b < w.heap.size) (hb2 : b2 < w.heap.size) (h1 : w.cell? ⟨b, 0, none⟩ = some (.string s)) (h2 : w.cell? ⟨b2, 0, none⟩ = some (.int .i64 y)) :
    Calls Tryz.prog 92 #[valName x, .pointer (some ⟨b, 0, none⟩), .pointer (some ⟨b2, 0, none⟩)] w fun e w' => e = .returned (.bool (offY s y x)) ∧ Ext w w' := by
  obtain ⟨x0, x1, x2, x3, x4⟩ := x
  have xb := (Ext.refl w).alloc (.cells #[.string x0, .string x1, .int .i64 x2, .int .i64 x3, .int .i64 x4] 62)
  have k1 := (Below.cell xb (p := ⟨b, 0, none⟩) hb).trans h1
  simp only [valName]
  cases ho : offB ⟨x0, x1, x2, x3, x4⟩ s
  · have hr : offY s y ⟨x0, x1, x2, x3, x4⟩ = false := by rw [offY, ho]; rfl
    have HO := Lib.hid ho
    have HR := Lib.hid hr
    clear ho hr
    go_enter Tryz.func92, Tryz.ntmps92
    go_wp2_with fail
    refine (isOfficial_any ⟨x0, x1, x2, x3, x4⟩ s _).mono ?_
    rintro e w1 ⟨rfl, e1⟩
    rw [HO.out]
    go_wp2
    go_ret
    exact ⟨by rw [HR.out]; rfl, xb.trans e1⟩
  · have hr : offY s y ⟨x0, x1, x2, x3, x4⟩ = inB y x3 x4 := by rw [offY, ho]; rfl
    have HO := Lib.hid ho
    have HR := Lib.hid hr
    clear ho hr
    go_enter Tryz.func92, Tryz.ntmps92
    go_wp2_with fail
    refine (isOfficial_any ⟨x0, x1, x2, x3, x4⟩ s _).mono ?_
    rintro e w1 ⟨rfl, e1⟩
    rw [HO.out]
    have b3 : _ = some (Value.int .i64 x3) := box_keptG e1 3
    have b4 : _ = some (Value.int .i64 x4) := box_keptG e1 4
    have k2 := (Below.cell (xb.trans e1) (p := ⟨b2, 0, none⟩) hb2).trans h2
    go_wp2_with fail
    refine (has_any ⟨x3, x4⟩ _ _).mono ?_
    rintro e w2 ⟨rfl, e2⟩
    go_wp2
    go_ret
    exact ⟨by rw [HR.out]; rfl, (xb.trans e1).trans e2⟩

set_option maxRecDepth 100000 in
set_option maxHeartbeats 400000 in
theorem idxOff_any (a : Option Addr) (n c : Nat) (xs : List NameV) (p : NameV → Bool) (q0 : Addr) (q1 : Addr) (w : World) (hr : RdName w a n xs) (hk : ∀ w1, Ext w w1 → ∀ k, k < n → Calls Tryz.prog 92 #[valName (nthName xs k), .pointer (some q0), .pointer (some q1)] w1 fun e w2 => e = .returned (.bool (p (nthName xs k))) ∧ Ext w1 w2) :
    Calls Tryz.prog 91 #[.slice a n c, .func (.func 92) #[] #[.pointer (some q0), .pointer (some q1)]] w fun e w' => e = .returned (.int .i64 (idxP p xs)) ∧ Ext w w' := by
  have hm := hr.le
  have hln := hr.len
  have HK := Lib.hid hk
  clear hk
  go_enter Tryz.func91, Tryz.ntmps91
  go_wp2
  go_loopw [8] (fun i wr => ∃ k : Nat, k ≤ n ∧ i = .int .i64 k ∧ (∀ j (hj : j < xs.length), j < k → p xs[j] = false) ∧ Ext w wr) (fun i _ => n - (intOf i).toNat)
  case atStart => exact ⟨0, Nat.zero_le _, rfl, fun j _ h => by omega, Ext.refl _⟩
  case round =>
    obtain ⟨k, hk, rfl, hall, hx⟩ := hrel
    have HA := Lib.hid hall
    clear hall
    by_cases hlt : k < n
    · obtain ⟨b, o, rfl, hbl, hA⟩ := (hr.ext hx).at (by omega)
      obtain ⟨hc0, hc1, hc2, hc3, hc4⟩ := hA k hlt
      clear hA
      have hki : (k : Int) < n := by omega
      have hget : xs[k]'(by omega) = nthName xs k := (nthName_eq (by omega)).symm
      cases hp : p (nthName xs k)
      · have HP := Lib.hid hp
        have HG := Lib.hid hget
        clear hp hget
        go_wp2_with (first | (go_at_call 92; refine (HK.out _ hx k hlt).mono ?_; rintro e w1 ⟨rfl, hx1⟩; rw [HP.out]))
        go_roundw
        case rel =>
          refine ⟨k + 1, by omega, by go_num, fun j hj hjk => ?_, hx.trans hx1⟩
          by_cases e : j = k
          · subst e; rw [HG.out]; exact HP.out
          · exact HA.out j hj (by omega)
        case measure => simp [intOf]; omega
      · have HP := Lib.hid hp
        have HG := Lib.hid hget
        clear hp hget
        go_wp2_with (first | (go_at_call 92; refine (HK.out _ hx k hlt).mono ?_; rintro e w1 ⟨rfl, hx1⟩; rw [HP.out]))
        go_ret
        exact ⟨ret_int (idxP_at (by omega) (by rw [HG.out]; exact HP.out) HA.out).symm, hx.trans hx1⟩
    · obtain rfl : k = n := by omega
      go_wp2
      go_ret
      exact ⟨ret_int (idxP_none (fun j hj => HA.out j hj (by omega))).symm, hx⟩

set_option maxRecDepth 100000 in
set_option maxHeartbeats 1000000 in
theorem officialIn_any (a : Option Addr) (n c : Nat) (s : ByteArray) (y : Int) (xs : List NameV) (w : World) (hr : RdName w a n xs) (hcap : n ≤ c) (hs : s.size ≤ 9223372036854775807) (hmax : MaxW w) :
    Calls Tryz.prog 54 #[.slice a n c, .string s, .int .i64 y] w (RetIC w (offV xs s y) (offC xs s y)) := by
  have xb := ((Ext.refl w).alloc (.cells #[.string s] 9)).alloc (.cells #[.int .i64 y] 2)
  have hr0 := hr.ext xb
  have hmax0 := hmax.ext xb
  cases hn : namesB xs
  · have hz := off_code (xs := xs) (s := s) (y := y) (by rw [codeN_bad (.inl hn)]; decide)
    rw [codeN_bad (.inl hn)] at hz
    have HN := Lib.hid (And.intro hn hz)
    clear hn hz
    go_enter Tryz.func54, Tryz.ntmps54
    go_wp2_with fail
    refine (implAreNames_any _ _ _ _ _ hr0 hcap hmax0).mono ?_
    rintro e w1 ⟨rfl, e1⟩
    rw [HN.out.1]
    go_wp2
    go_ret2
    rw [RetIC, HN.out.2.1, HN.out.2.2]
    exact ⟨rfl, xb.trans e1⟩
  cases hl : langB s
  · have hz := off_code (xs := xs) (s := s) (y := y) (by rw [codeN_bad (.inr hl)]; decide)
    rw [codeN_bad (.inr hl)] at hz
    have HN := Lib.hid (And.intro hn (And.intro hl hz))
    clear hn hz hl
    go_enter Tryz.func54, Tryz.ntmps54
    go_wp2_with fail
    refine (implAreNames_any _ _ _ _ _ hr0 hcap hmax0).mono ?_
    rintro e w1 ⟨rfl, e1⟩
    rw [HN.out.1]
    have c0 : _ = some (Value.string s) := box_keptG (((Ext.refl _).alloc _).trans e1) 0
    go_wp2_with fail
    refine (isLanguage_any _ _ hs).mono ?_
    rintro e w2 ⟨rfl, e2⟩
    rw [HN.out.2.1]
    go_wp2
    go_ret2
    rw [RetIC, HN.out.2.2.1, HN.out.2.2.2]
    exact ⟨rfl, (xb.trans e1).trans e2⟩
  cases hy : inB y (-3000) 3000
  · have hz := off_code (xs := xs) (s := s) (y := y) (by rw [codeN_range hn hl hy]; decide)
    rw [codeN_range hn hl hy] at hz
    have HN := Lib.hid (And.intro hn (And.intro hl (And.intro hy hz)))
    clear hn hz hl hy
    go_enter Tryz.func54, Tryz.ntmps54
    go_wp2_with fail
    refine (implAreNames_any _ _ _ _ _ hr0 hcap hmax0).mono ?_
    rintro e w1 ⟨rfl, e1⟩
    rw [HN.out.1]
    have c0 : _ = some (Value.string s) := box_keptG (((Ext.refl _).alloc _).trans e1) 0
    go_wp2_with fail
    refine (isLanguage_any _ _ hs).mono ?_
    rintro e w2 ⟨rfl, e2⟩
    rw [HN.out.2.1]
    have c1 : _ = some (Value.int .i64 y) := box_keptG (e1.trans e2) 0
    simp only [World.size_alloc] at c1
    go_wp2_with (first | (go_at_call 61; refine (isYear_any _ _).mono ?_; rintro e w' ⟨rfl, rfl⟩; rw [HN.out.2.2.1]))
    go_ret2
    rw [RetIC, HN.out.2.2.2.1, HN.out.2.2.2.2]
    exact ⟨rfl, (xb.trans e1).trans e2⟩
  · have hz := codeN_ok hn hl hy
    by_cases h2 : offI xs s y < 0
    all_goals
      have HN := Lib.hid (And.intro hn (And.intro hl (And.intro hy hz)))
      clear hn hz hl hy
      have h2' : idxP (offY s y) xs = offI xs s y := rfl
      go_enter Tryz.func54, Tryz.ntmps54
      go_wp2_with fail
      refine (implAreNames_any _ _ _ _ _ hr0 hcap hmax0).mono ?_
      rintro e w1 ⟨rfl, e1⟩
      rw [HN.out.1]
      have c0 : _ = some (Value.string s) := box_keptG (((Ext.refl _).alloc _).trans e1) 0
      go_wp2_with fail
      refine (isLanguage_any _ _ hs).mono ?_
      rintro e w2 ⟨rfl, e2⟩
      rw [HN.out.2.1]
      have c1 : _ = some (Value.int .i64 y) := box_keptG (e1.trans e2) 0
      have d0 : _ = some (Value.string s) := box_keptG (((Ext.refl _).alloc _).trans (e1.trans e2)) 0
      simp only [World.size_alloc] at c1
      have hsz : w.heap.size + 1 < w2.heap.size := by have := (e1.trans e2).size; simp only [World.size_alloc] at this; omega
      go_wp2_with (first | (go_at_call 61; refine (isYear_any _ _).mono ?_; rintro e w' ⟨rfl, rfl⟩; rw [HN.out.2.2.1]) | fail)
      refine (idxOff_any _ _ _ _ (offY s y) ⟨w.heap.size, 0, none⟩ ⟨w.heap.size + 1, 0, none⟩ _ (hr0.ext (e1.trans e2)) (fun w3 hx3 j hj => offClosure_any _ s y _ _ _ (Nat.lt_of_lt_of_le (by omega) hx3.size) (Nat.lt_of_lt_of_le hsz hx3.size) ((Below.cell hx3 (p := ⟨w.heap.size, 0, none⟩) (by show w.heap.size < _; omega)).trans d0) ((Below.cell hx3 (p := ⟨w.heap.size + 1, 0, none⟩) hsz).trans c1))).mono ?_
      rintro e w3 ⟨rfl, e3⟩
      rw [h2']
      go_wp2
      go_ret2
    · rw [RetIC, (off_none HN.out.2.2.2 h2).1, (off_none HN.out.2.2.2 h2).2]
      exact ⟨rfl, (xb.trans (e1.trans e2)).trans e3⟩
    · rw [RetIC, (off_some HN.out.2.2.2 (by omega)).1, (off_some HN.out.2.2.2 (by omega)).2]
      exact ⟨rfl, (xb.trans (e1.trans e2)).trans e3⟩

set_option maxRecDepth 100000 in
set_option maxHeartbeats 400000 in
theorem implOfficialIn_any (a : Option Addr) (n c : Nat) (s : ByteArray) (y : Int) (xs : List NameV) (w : World) (hr : RdName w a n xs) (hcap : n ≤ c) (hs : s.size ≤ 9223372036854775807) (hmax : MaxW w) :
    Calls Tryz.prog 23 #[.slice a n c, .string s, .int .i64 y] w (RetIC w (offV xs s y) (offC xs s y)) := by
  go_enter Tryz.func23, Tryz.ntmps23
  go_wp2_with fail
  refine (officialIn_any _ _ _ _ _ _ _ hr hcap hs hmax).mono ?_
  rintro e w1 ⟨rfl, e1⟩
  go_wp2
  go_ret2
  exact ⟨rfl, e1⟩

end Go.Proofs.YteencdgaldhanaaGreatDoor
