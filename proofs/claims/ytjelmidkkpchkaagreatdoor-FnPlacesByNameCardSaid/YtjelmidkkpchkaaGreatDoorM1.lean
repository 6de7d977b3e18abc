/-
  Texts of this claim, put together.
-/
import Derived.Test.YtjelmidkkpchkaaGreatDoorNA2
import Derived.Test.YtjelmidkkpchkaaGreatDoorRL
import Derived.Test.YtjelmidkkpchkaaGreatDoorM0
import Derived.Deep.DrawnRows

section
namespace Go.Proofs.YtjelmidkkpchkaaGreatDoor
open Go.RowKit

def hasY (xs : List NameV) (y : Int) (i : Nat) : Bool := inB y (nthName xs i).from_ (nthName xs i).to_
def usedL (xs : List NameV) (y : Int) : List Int := selN xs.length (hasY xs y)
/-- The code of names, a language (is it one?) and a year. -/
def codeN (xs : List NameV) (lb : Bool) (y : Int) : Int := if (namesB xs && lb) = true then (if inB y (-3000) 3000 = true then 0 else 2) else 1
theorem codeN_bad {xs : List NameV} {lb : Bool} {y : Int} (h : namesB xs = false ∨ lb = false) : codeN xs lb y = 1 := by
  rw [codeN, if_neg]
  rcases h with h | h <;> simp [h]
theorem codeN_range {xs : List NameV} {lb : Bool} {y : Int} (h : namesB xs = true) (h1 : lb = true) (h2 : inB y (-3000) 3000 = false) : codeN xs lb y = 2 := by
  rw [codeN, h, h1, h2]; rfl
theorem codeN_ok {xs : List NameV} {lb : Bool} {y : Int} (h : namesB xs = true) (h1 : lb = true) (h2 : inB y (-3000) 3000 = true) : codeN xs lb y = 0 := by
  rw [codeN, h, h1, h2]; rfl
theorem codeN_names {xs : List NameV} {lb : Bool} {y : Int} (h : codeN xs lb y = 0) : namesB xs = true := by
  cases hn : namesB xs
  · rw [codeN_bad (.inl hn)] at h; cases h
  · rfl
theorem namesB_len {xs : List NameV} (h : namesB xs = true) : xs.length ≤ 12 := by
  rw [namesB, Bool.and_eq_true] at h
  exact of_decide_eq_true h.2

set_option maxRecDepth 100000 in
set_option maxHeartbeats 1000000 in
theorem l09Used_any (a : Option Addr) (n c : Nat) (y : Int) (xs : List NameV) (w : World) (hr : RdName w a n xs) :
    Calls Tryz.prog 100 #[.slice a n c, .int .i64 y] w fun e w' => ∃ v, e = .returned v ∧ NewI w w' (usedL xs y) v := by
  have hm := hr.le
  have hln := hr.len
  go_enter Tryz.func100, Tryz.ntmps100
  go_wp2
  go_loopw [5, 6] (fun v i wr => ∃ k : Nat, k ≤ n ∧ i = .int .i64 k ∧ OwnV wr w.heap.size v (selN k (hasY xs y)) ∧ Ext w wr) (fun _ i _ => n - (intOf i).toNat)
  case atStart => exact ⟨0, Nat.zero_le _, rfl, OwnV.lit0 w (Nat.le_refl _), (Ext.refl _).alloc _⟩
  case round =>
    obtain ⟨k, hk, rfl, ⟨a1, n1, c1, rfl, ho⟩, hb⟩ := hrel
    by_cases hlt : k < n
    · have hn1 : n1 ≤ k := by
        have h1 := ho.rd.len
        have h2 := selN_len k (hasY xs y)
        omega
      obtain ⟨b, o, rfl, hbl, hA⟩ := (hr.ext hb).at (by omega)
      obtain ⟨hc0, hc1, hc2, hc3, hc4⟩ := hA k hlt
      clear hA hc0 hc1 hc2
      have hki : (k : Int) < n := by omega
      cases h : hasY xs y k
      · have hy := selN_no h
        have HH := Lib.hid (And.intro h hy)
        clear h hy
        go_wp2
        go_quiet (first | (go_at_call 55; exact (l01In_any _ _ _ _).mono fun _ _ h => ⟨h.1, ⟨_, h.2.symm⟩⟩))
        rw [show inB y (nthName xs k).from_ (nthName xs k).to_ = false from HH.out.1]
        go_wp2
        go_roundw
        case rel => exact ⟨k + 1, by omega, by go_num, ⟨_, _, _, rfl, by rw [HH.out.2]; exact ho.ext ((Ext.refl _).drewN _)⟩, hb.drewN _⟩
        case measure => simp [intOf]; omega
      · have hy := selN_yes h
        have HH := Lib.hid (And.intro h hy)
        clear h hy
        go_wp2
        go_quiet (first | (go_at_call 55; exact (l01In_any _ _ _ _).mono fun _ _ h => ⟨h.1, ⟨_, h.2.symm⟩⟩))
        rw [show inB y (nthName xs k).from_ (nthName xs k).to_ = true from HH.out.1]
        have ho' : OwnI _ w.heap.size a1 n1 c1 (selN k (hasY xs y)) := ho.ext ((Ext.refl _).drewN nq)
        have hb' := hb.drewN nq
        generalize wr.drewN nq = wd at ho' hb' ⊢
        go_wp2_with (first | (at_builtin; refine wpList_appI rfl _ _ rfl w.heap.size _ n1 _ rfl (ho'.alloc _) _ 1 _ [(k : Int)] rfl (RdI.new1 _ _ _) (by omega) (hb'.le_alloc _) ?_; intro a2 c2 w2 hown hgrow; have hb2 := hb'.app ho' (Nat.le_refl _) hgrow; have HO := Lib.hid hown; clear hown))
        go_roundw
        case rel => exact ⟨k + 1, by omega, by go_num, ⟨_, _, _, rfl, by rw [HH.out.2]; exact HO.out⟩, hb2⟩
        case measure => simp [intOf]; omega
    · obtain rfl : k = n := by omega
      go_wp2
      go_ret
      exact ⟨_, rfl, _, _, _, rfl, by rw [usedL, hln]; exact ho, hb⟩

end Go.Proofs.YtjelmidkkpchkaaGreatDoor
end

section
namespace Go.Proofs.YtjelmidkkpchkaaGreatDoor
open Go.RowKit

def usedX (xs : List NameV) (y : Int) : List Nat := (List.range xs.length).filter (hasY xs y)
theorem usedX_get {xs : List NameV} {y : Int} {m : Nat} (hm : m < (usedX xs y).length) : nth (usedL xs y) m = ((usedX xs y)[m] : Nat) ∧ (usedX xs y)[m] < xs.length := by
  have h := List.getElem_mem hm
  refine ⟨?_, ?_⟩
  · rw [nth_eq (by simpa [usedL, selN, usedX] using hm)]
    simp [usedL, selN, usedX]
  · have h2 := (List.mem_filter.1 h).1
    exact List.mem_range.1 h2
theorem usedX_has {xs : List NameV} {y : Int} {m : Nat} (hm : m < (usedX xs y).length) : hasY xs y (usedX xs y)[m] = true := (List.mem_filter.1 (List.getElem_mem hm)).2
theorem usedX_len (xs : List NameV) (y : Int) : (usedL xs y).length = (usedX xs y).length := by simp [usedL, selN, usedX]

end Go.Proofs.YtjelmidkkpchkaaGreatDoor
end

section
namespace Go.Proofs.YtjelmidkkpchkaaGreatDoor
open Go.RowKit

def usedR (xs : List NameV) (y : Int) : List Int := if codeN xs true y = 0 then usedL xs y else []
theorem aa_lang : langB ⟨#[97, 97]⟩ = true := by decide

/-! The official name. -/
def offY (lang : ByteArray) (y : Int) (x : NameV) : Bool := offB x lang && inB y x.from_ x.to_
def offI (xs : List NameV) (lang : ByteArray) (y : Int) : Int := idxP (offY lang y) xs

/-- What OfficialIn answers. -/
def offC (xs : List NameV) (s : ByteArray) (y : Int) : Int := if codeN xs (langB s) y = 0 then (if offI xs s y < 0 then 4 else 0) else codeN xs (langB s) y
def offV (xs : List NameV) (s : ByteArray) (y : Int) : Int := if codeN xs (langB s) y = 0 ∧ 0 ≤ offI xs s y then offI xs s y else 0
theorem off_code {xs : List NameV} {s : ByteArray} {y : Int} (h : codeN xs (langB s) y ≠ 0) : offV xs s y = 0 ∧ offC xs s y = codeN xs (langB s) y := ⟨if_neg fun h2 => h h2.1, if_neg h⟩
theorem off_none {xs : List NameV} {s : ByteArray} {y : Int} (h : codeN xs (langB s) y = 0) (h2 : offI xs s y < 0) : offV xs s y = 0 ∧ offC xs s y = 4 := ⟨if_neg fun h3 => by omega, by rw [offC, if_pos h, if_pos h2]⟩
theorem off_some {xs : List NameV} {s : ByteArray} {y : Int} (h : codeN xs (langB s) y = 0) (h2 : ¬ offI xs s y < 0) : offV xs s y = offI xs s y ∧ offC xs s y = 0 := ⟨if_pos ⟨h, by omega⟩, by rw [offC, if_pos h, if_neg h2]⟩

end Go.Proofs.YtjelmidkkpchkaaGreatDoor
end

section
namespace Go.Proofs.YtjelmidkkpchkaaGreatDoor
open Go.RowKit
attribute [local go_sem ↓] Go.wp_at_zero Go.wp_at_succ

/-! Languages. -/
def langsB (ls : List ByteArray) : Bool := !anyP (fun s => !langB s) ls
theorem langsB_bad {ls : List ByteArray} {k : Nat} (hk : k < ls.length) (h : langB (nthS ls k) = false) : langsB ls = false := by
  rw [langsB, anyP_at (k := k) hk (by rw [← nthS_eq hk, h]; rfl)]; rfl
theorem langsB_good {ls : List ByteArray} (h : ∀ k, k < ls.length → langB (nthS ls k) = true) : langsB ls = true := by
  rw [langsB, anyP_none fun j hj => by rw [← nthS_eq hj, h j hj]; rfl]; rfl

set_option maxHeartbeats 400000 in
theorem langClosure_any (s : ByteArray) (w : World) (hs : s.size ≤ 9223372036854775807) :
    Calls Tryz.prog 106 #[.string s] w fun e w' => e = .returned (.bool (!langB s)) ∧ Ext w w' := by
  go_enter Tryz.func106, Tryz.ntmps106
  go_wp2_with fail
  refine (isLanguage_any _ _ hs).mono ?_
  rintro e w1 ⟨rfl, e1⟩
  go_wp2
  go_ret
  exact ⟨rfl, e1⟩

set_option maxRecDepth 100000 in
set_option maxHeartbeats 400000 in
theorem idxLang_any (a : Option Addr) (n c : Nat) (xs : List ByteArray) (p : ByteArray → Bool) (w : World) (hr : RdS w a n xs) (hk : ∀ w1, Ext w w1 → ∀ k, k < n → Calls Tryz.prog 106 #[.string (nthS xs k)] w1 fun e w2 => e = .returned (.bool (p (nthS xs k))) ∧ Ext w1 w2) :
    Calls Tryz.prog 144 #[.slice a n c, .func (.func 106) #[] #[]] w fun e w' => e = .returned (.int .i64 (idxP p xs)) ∧ Ext w w' := by
  have hm := hr.le
  have hln := hr.len
  have HK := Lib.hid hk
  clear hk
  go_enter Tryz.func144, Tryz.ntmps144
  go_wp2
  go_loopw [8] (fun i wr => ∃ k : Nat, k ≤ n ∧ i = .int .i64 k ∧ (∀ j (hj : j < xs.length), j < k → p xs[j] = false) ∧ Ext w wr) (fun i _ => n - (intOf i).toNat)
  case atStart => exact ⟨0, Nat.zero_le _, rfl, fun j _ h => by omega, Ext.refl _⟩
  case round =>
    obtain ⟨k, hk, rfl, hall, hx⟩ := hrel
    have HA := Lib.hid hall
    clear hall
    by_cases hlt : k < n
    · obtain ⟨b, o, rfl, hbl, hA⟩ := (hr.ext hx).at (by omega)
      have hc0 := hA k hlt
      clear hA
      have hki : (k : Int) < n := by omega
      have hget : xs[k]'(by omega) = nthS xs k := (nthS_eq (by omega)).symm
      cases hp : p (nthS xs k)
      · have HP := Lib.hid hp
        have HG := Lib.hid hget
        clear hp hget
        go_wp2_with (first | (go_at_call 106; refine (HK.out _ hx k hlt).mono ?_; rintro e w1 ⟨rfl, hx1⟩; rw [HP.out]))
        go_roundw
        case rel =>
          refine ⟨k + 1, by omega, by go_num, fun j hj hjk => ?_, hx.trans hx1⟩
          by_cases e : j = k
          · subst e; rw [HG.out]; exact HP.out
          · exact HA.out j hj (by omega)
        case measure => simp [intOf]; omega
      · have HP := Lib.hid hp
        have HG := Lib.hid hget
        clear hp hget
        go_wp2_with (first | (go_at_call 106; refine (HK.out _ hx k hlt).mono ?_; rintro e w1 ⟨rfl, hx1⟩; rw [HP.out]))
        go_ret
        exact ⟨ret_int (idxP_at (by omega) (by rw [HG.out]; exact HP.out) HA.out).symm, hx.trans hx1⟩
    · obtain rfl : k = n := by omega
      go_wp2
      go_ret
      exact ⟨ret_int (idxP_none (fun j hj => HA.out j hj (by omega))).symm, hx⟩

set_option maxHeartbeats 400000 in
theorem anyLang_any (a : Option Addr) (n c : Nat) (xs : List ByteArray) (p : ByteArray → Bool) (w : World) (hr : RdS w a n xs) (hk : ∀ w1, Ext w w1 → ∀ k, k < n → Calls Tryz.prog 106 #[.string (nthS xs k)] w1 fun e w2 => e = .returned (.bool (p (nthS xs k))) ∧ Ext w1 w2) :
    Calls Tryz.prog 105 #[.slice a n c, .func (.func 106) #[] #[]] w fun e w' => e = .returned (.bool (anyP p xs)) ∧ Ext w w' := by
  go_enter Tryz.func105, Tryz.ntmps105
  go_wp2_with fail
  refine (idxLang_any _ _ _ _ p  _ hr hk).mono ?_
  rintro e w' ⟨rfl, hx⟩
  go_wp2
  go_ret
  exact ⟨ret_bool rfl, hx⟩

set_option maxHeartbeats 400000 in
theorem areLanguages_any (a : Option Addr) (n c : Nat) (ls : List ByteArray) (w : World) (hr : RdS w a n ls) :
    Calls Tryz.prog 61 #[.slice a n c] w fun e w' => e = .returned (.bool (langsB ls)) ∧ Ext w w' := by
  go_enter Tryz.func61, Tryz.ntmps61
  go_wp2_with fail
  refine (anyLang_any _ _ _ _ (fun s => !langB s) _ hr (fun w1 hx k hk => langClosure_any _ _ (by have := hr.size hk; omega))).mono ?_
  rintro e w1 ⟨rfl, e1⟩
  go_wp2
  go_ret
  exact ⟨rfl, e1⟩

/-! The best name. -/
def betterB (xs : List NameV) (l : ByteArray) (b : Int) (i : Nat) : Bool := decide ((nthName xs i).lang = l) && (decide (b < 0) || decide ((nthName xs i).status < (nthName xs b.toNat).status))
def bestS (xs : List NameV) (l : ByteArray) (b : Int) (i : Nat) : Int := if betterB xs l b i = true then (i : Int) else b
def bestN (xs : List NameV) (l : ByteArray) (y : Int) (k : Nat) : Int := (List.range k).foldl (fun b i => if hasY xs y i = true then bestS xs l b i else b) (-1)
def bestA (xs : List NameV) (l : ByteArray) (y : Int) : Int := bestN xs l y xs.length
def bestM (xs : List NameV) (l : ByteArray) (y : Int) (m : Nat) : Int := ((usedX xs y).take m).foldl (bestS xs l) (-1)
theorem bestN_step (xs : List NameV) (l : ByteArray) (y : Int) (k : Nat) : bestN xs l y (k + 1) = if hasY xs y k = true then bestS xs l (bestN xs l y k) k else bestN xs l y k := by
  rw [bestN, List.range_succ, List.foldl_append]; rfl
theorem bestM_step {xs : List NameV} {l : ByteArray} {y : Int} {m : Nat} (hm : m < (usedX xs y).length) : bestM xs l y (m + 1) = bestS xs l (bestM xs l y m) (usedX xs y)[m] := by
  rw [bestM, List.take_succ_eq_append_getElem hm, List.foldl_append]; rfl
theorem bestM_all (xs : List NameV) (l : ByteArray) (y : Int) : bestM xs l y (usedX xs y).length = bestA xs l y := by
  rw [bestM, List.take_length, usedX, List.foldl_filter]; rfl
theorem bestN_range (xs : List NameV) (l : ByteArray) (y : Int) : ∀ k, -1 ≤ bestN xs l y k ∧ bestN xs l y k < k := by
  intro k
  induction k with
  | zero => simp [bestN]
  | succ k ih =>
    rw [bestN_step]
    split
    · rw [bestS]; split <;> omega
    · omega
theorem bestM_range (xs : List NameV) (l : ByteArray) (y : Int) : ∀ m, m ≤ (usedX xs y).length → -1 ≤ bestM xs l y m ∧ bestM xs l y m < xs.length := by
  intro m
  induction m with
  | zero => intro _; simp [bestM]; omega
  | succ m ih =>
    intro hm
    have h1 := ih (by omega)
    have h2 := (usedX_get (xs := xs) (y := y) (m := m) (by omega)).2
    rw [bestM_step (by omega), bestS]
    split <;> omega
theorem bestS_lang {xs : List NameV} {l : ByteArray} {b : Int} {i : Nat} (h : (nthName xs i).lang ≠ l) : bestS xs l b i = b := by simp [bestS, betterB, h]
theorem bestS_new {xs : List NameV} {l : ByteArray} {b : Int} {i : Nat} (h : (nthName xs i).lang = l) (h2 : b < 0) : bestS xs l b i = i := by simp [bestS, betterB, h, h2]
theorem bestS_more {xs : List NameV} {l : ByteArray} {b : Nat} {i : Nat} (h : (nthName xs i).lang = l) (h2 : (nthName xs i).status < (nthName xs b).status) : bestS xs l b i = i := by simp [bestS, betterB, h, h2]
theorem bestS_less {xs : List NameV} {l : ByteArray} {b : Nat} {i : Nat} (h2 : ¬ (nthName xs i).status < (nthName xs b).status) : bestS xs l b i = b := by
  have : ¬ (b : Int) < 0 := by omega
  simp [bestS, betterB, h2, this]
/-- Over all languages. -/
def bestI (xs : List NameV) (ls : List ByteArray) (y : Int) : Int := idxP (fun l => decide (0 ≤ bestA xs l y)) ls
def bestR (xs : List NameV) (ls : List ByteArray) (y : Int) : Int := if bestI xs ls y < 0 then -1 else bestA xs (nthS ls (bestI xs ls y).toNat) y
theorem bestR_at {xs : List NameV} {ls : List ByteArray} {y : Int} {q : Nat} (hq : q < ls.length) (h : 0 ≤ bestA xs (nthS ls q) y) (hp : ∀ j, j < q → bestA xs (nthS ls j) y < 0) : bestR xs ls y = bestA xs (nthS ls q) y := by
  have hi : bestI xs ls y = (q : Nat) := idxP_at hq (by rw [← nthS_eq hq]; simpa using h) fun j hj hjq => by
    rw [← nthS_eq hj]; simpa using hp j hjq
  rw [bestR, hi, if_neg (by omega)]; rfl
theorem bestR_none {xs : List NameV} {ls : List ByteArray} {y : Int} (hp : ∀ j, j < ls.length → bestA xs (nthS ls j) y < 0) : bestR xs ls y = -1 := by
  have hi : bestI xs ls y = -1 := idxP_none fun j hj => by
    rw [← nthS_eq hj]; simpa using hp j hj
  rw [bestR, hi]; rfl

set_option maxRecDepth 100000 in
set_option maxHeartbeats 4000000 in
theorem bestIn_any (a a2 : Option Addr) (n c m c2 : Nat) (y : Int) (xs : List NameV) (ls : List ByteArray) (w : World) (hr : RdName w a n xs) (hr2 : RdS w a2 m ls) :
    Calls Tryz.prog 111 #[.slice a n c, .slice a2 m c2, .int .i64 y] w fun e w' => e = .returned (.int .i64 (bestR xs ls y)) ∧ Ext w w' := by
  have hm := hr.le
  have hln := hr.len
  have hm2 := hr2.le
  have hln2 := hr2.len
  go_enter Tryz.func111, Tryz.ntmps111
  go_wp2
  go_loopw [14] (fun i wr => ∃ q : Nat, q ≤ m ∧ i = .int .i64 q ∧ (∀ j, j < q → bestA xs (nthS ls j) y < 0) ∧ Ext w wr) (fun i _ => m - (intOf i).toNat)
  case atStart => exact ⟨0, Nat.zero_le _, rfl, fun j h => by omega, Ext.refl _⟩
  case round =>
    obtain ⟨q, hq, rfl, hall, hx⟩ := hrel
    have HQ := Lib.hid hall
    clear hall
    by_cases hlq : q < m
    · obtain ⟨b2, o2, rfl, hbl2, hcl⟩ := (hr2.ext hx).at (by omega)
      have hck := hcl q hlq
      clear hcl
      have hqi : (q : Int) < m := by omega
      go_wp2
      go_loopw [9, 20] (fun u i wi => ∃ k : Nat, k ≤ n ∧ i = .int .i64 k ∧ u = .int .i64 (bestN xs (nthS ls q) y k) ∧ Ext wr wi) (fun _ i _ => n - (intOf i).toNat)
      case atStart => exact ⟨0, Nat.zero_le _, rfl, rfl, Ext.refl _⟩
      case round =>
        obtain ⟨k, hk, rfl, rfl, hxi⟩ := hrel
        have hrg := bestN_range xs (nthS ls q) y k
        have hxw := hx.trans hxi
        by_cases hlt : k < n
        · obtain ⟨b, o, rfl, hbl, hA⟩ := (hr.ext hxw).at (by omega)
          obtain ⟨hc0, hc1, hc2, hc3, hc4⟩ := hA k hlt
          have HA := Lib.hid hA
          clear hA
          have hki : (k : Int) < n := by omega
          have hst := bestN_step xs (nthS ls q) y k
          have HST := Lib.hid hst
          clear hst
          have hbx := (Ext.refl wr).alloc (.cells #[.string (nthName xs k).text, .string (nthName xs k).lang, .int .i64 (nthName xs k).status, .int .i64 (nthName xs k).from_, .int .i64 (nthName xs k).to_] 69)
          have bx1 : (wr.alloc (.cells #[.string (nthName xs k).text, .string (nthName xs k).lang, .int .i64 (nthName xs k).status, .int .i64 (nthName xs k).from_, .int .i64 (nthName xs k).to_] 69)).cell? ⟨wr.heap.size, 1, none⟩ = some (Value.string (nthName xs k).lang) := box_keptG (Ext.refl _) 1
          have bx2 : (wr.alloc (.cells #[.string (nthName xs k).text, .string (nthName xs k).lang, .int .i64 (nthName xs k).status, .int .i64 (nthName xs k).from_, .int .i64 (nthName xs k).to_] 69)).cell? ⟨wr.heap.size, 2, none⟩ = some (Value.int .i64 (nthName xs k).status) := box_keptG (Ext.refl _) 2
          have bx3 : (wr.alloc (.cells #[.string (nthName xs k).text, .string (nthName xs k).lang, .int .i64 (nthName xs k).status, .int .i64 (nthName xs k).from_, .int .i64 (nthName xs k).to_] 69)).cell? ⟨wr.heap.size, 3, none⟩ = some (Value.int .i64 (nthName xs k).from_) := box_keptG (Ext.refl _) 3
          have bx4 : (wr.alloc (.cells #[.string (nthName xs k).text, .string (nthName xs k).lang, .int .i64 (nthName xs k).status, .int .i64 (nthName xs k).from_, .int .i64 (nthName xs k).to_] 69)).cell? ⟨wr.heap.size, 4, none⟩ = some (Value.int .i64 (nthName xs k).to_) := box_keptG (Ext.refl _) 4
          by_cases hl : (nthName xs k).lang = nthS ls q
          · have hbe := beqS_eq hl
            have HL := Lib.hid hl
            clear hl
            have hbs : wr.heap.size < (wr.alloc (.cells #[.string (nthName xs k).text, .string (nthName xs k).lang, .int .i64 (nthName xs k).status, .int .i64 (nthName xs k).from_, .int .i64 (nthName xs k).to_] 69)).heap.size := by simp
            cases hin : hasY xs y k
            · have hsame : bestN xs (nthS ls q) y (k + 1) = bestN xs (nthS ls q) y k := by rw [HST.out, hin]; rfl
              have HS := Lib.hid hsame
              have HI := Lib.hid hin
              clear hsame hin
              go_wp2
              refine wp_region_any (by kernel_rfl) ?_
              try (change wpAny _ _ _ _ _ _ _ (World.drew _))
              refine takeYes 0 25 ?v1 rfl rfl (by kernel_rfl) (by kernel_rfl) (by kernel_rfl) (fun _ _ _ _ h => h) (by kernel_rfl) ?y1 ?r1
              case y1 => intro w; go_simp; first | done | with_reducible rfl
              simp only [Act.put, List.setIfInBounds_toArray, List.set_cons_zero, List.set_cons_succ]
              refine takeYes 2 27 ?v2 rfl rfl (by kernel_rfl) (by kernel_rfl) (by kernel_rfl) (fun _ _ _ _ h => h) (by kernel_rfl) ?y2 ?r2
              case y2 => intro w; go_simp; first | done | with_reducible rfl
              simp only [Act.put, List.setIfInBounds_toArray, List.set_cons_zero, List.set_cons_succ]
              refine wpAny_ready (rs := [1]) (by kernel_rfl) (by simp) ?_
              refine AllReady.cons rfl (fun K hK => ?_) AllReady.nil
              go_simp
              refine hK _ _ ?_
              clear hK K
              try simp only [Act.put, List.setIfInBounds_toArray, List.set_cons_zero, List.set_cons_succ]
              refine takeYes 3 28 ?v3 rfl rfl (by kernel_rfl) (by kernel_rfl) (by kernel_rfl) (fun _ _ _ _ h => h) (by kernel_rfl) ?y3 ?r3
              case y3 => intro w; go_simp; first | done | with_reducible rfl
              simp only [Act.put, List.setIfInBounds_toArray, List.set_cons_zero, List.set_cons_succ]
              refine takeYes 4 29 ?v4 rfl rfl (by kernel_rfl) (by kernel_rfl) (by kernel_rfl) (fun _ _ _ _ h => h) (by kernel_rfl) ?y4 ?r4
              case y4 => intro w; go_simp; first | done | with_reducible rfl
              simp only [Act.put, List.setIfInBounds_toArray, List.set_cons_zero, List.set_cons_succ]
              refine takeYes 5 30 ?v5 rfl rfl (by kernel_rfl) (by kernel_rfl) (by kernel_rfl) (fun _ _ _ _ h => h) (by kernel_rfl) ?y5 ?r5
              case y5 => intro w; go_simp; first | done | with_reducible rfl
              simp only [Act.put, List.setIfInBounds_toArray, List.set_cons_zero, List.set_cons_succ]
              refine takeYes 7 32 ?v6 rfl rfl (by kernel_rfl) (by kernel_rfl) (by kernel_rfl) (fun _ _ _ _ h => h) (by kernel_rfl) ?y6 ?r6
              case y6 => intro w; go_simp; first | done | with_reducible rfl
              simp only [Act.put, List.setIfInBounds_toArray, List.set_cons_zero, List.set_cons_succ]
              refine wpAny_ready (rs := [6]) (by kernel_rfl) (by simp) ?_
              refine AllReady.cons rfl (fun K hK => ?_) AllReady.nil
              go_simp
              refine hK _ _ ?_
              clear hK K
              try simp only [Act.put, List.setIfInBounds_toArray, List.set_cons_zero, List.set_cons_succ]
              refine wpAny_ready (rs := [8]) (by kernel_rfl) (by simp) ?_
              refine AllReady.cons rfl (fun K hK => ?_) AllReady.nil
              go_simp
              refine (has_any ⟨(nthName xs k).from_, (nthName xs k).to_⟩ y _).mono ?_
              rintro e w3 ⟨rfl, hx3⟩
              rw [show inB y (nthName xs k).from_ (nthName xs k).to_ = false from HI.out]
              have z1 := (Below.cell ((Ext.refl _).drew.trans hx3) (p := ⟨wr.heap.size, 1, none⟩) hbs).trans bx1
              have z2 := (Below.cell ((Ext.refl _).drew.trans hx3) (p := ⟨wr.heap.size, 2, none⟩) hbs).trans bx2
              have z3 := (Below.cell ((Ext.refl _).drew.trans hx3) (p := ⟨wr.heap.size, 3, none⟩) hbs).trans bx3
              have z4 := (Below.cell ((Ext.refl _).drew.trans hx3) (p := ⟨wr.heap.size, 4, none⟩) hbs).trans bx4
              go_wp2_with fail
              try simp only [Act.put, List.setIfInBounds_toArray, List.set_cons_zero, List.set_cons_succ]
              refine takeYes 9 34 ?v7 rfl rfl (by kernel_rfl) (by kernel_rfl) (by kernel_rfl) (fun _ _ _ _ h => h) (by kernel_rfl) ?y7 ?r7
              case y7 => intro w; go_simp; first | done | with_reducible rfl
              simp only [Act.put, List.setIfInBounds_toArray, List.set_cons_zero, List.set_cons_succ]
              refine takeYes 10 35 ?v8 rfl rfl (by kernel_rfl) (by kernel_rfl) (by kernel_rfl) (fun _ _ _ _ h => h) (by kernel_rfl) ?y8 ?r8
              case y8 => intro w; go_simp; first | done | with_reducible rfl
              simp only [Act.put, List.setIfInBounds_toArray, List.set_cons_zero, List.set_cons_succ]
              refine takeNo 11 36 rfl rfl (by kernel_rfl) (by kernel_rfl) (by kernel_rfl) (fun _ _ _ _ h => h) (by kernel_rfl) ?_
              simp only [Act.put, List.setIfInBounds_toArray, List.set_cons_zero, List.set_cons_succ]
              refine takeNo 12 37 rfl rfl (by kernel_rfl) (by kernel_rfl) (by kernel_rfl) (fun _ _ _ _ h => h) (by kernel_rfl) ?_
              simp only [Act.put, List.setIfInBounds_toArray, List.set_cons_zero, List.set_cons_succ]
              refine takeNo 13 38 rfl rfl (by kernel_rfl) (by kernel_rfl) (by kernel_rfl) (fun _ _ _ _ h => h) (by kernel_rfl) ?_
              simp only [Act.put, List.setIfInBounds_toArray, List.set_cons_zero, List.set_cons_succ]
              refine takeNo 14 39 rfl rfl (by kernel_rfl) (by kernel_rfl) (by kernel_rfl) (fun _ _ _ _ h => h) (by kernel_rfl) ?_
              simp only [Act.put, List.setIfInBounds_toArray, List.set_cons_zero, List.set_cons_succ]
              refine takeNo 15 40 rfl rfl (by kernel_rfl) (by kernel_rfl) (by kernel_rfl) (fun _ _ _ _ h => h) (by kernel_rfl) ?_
              simp only [Act.put, List.setIfInBounds_toArray, List.set_cons_zero, List.set_cons_succ]
              refine takeNo 16 41 rfl rfl (by kernel_rfl) (by kernel_rfl) (by kernel_rfl) (fun _ _ _ _ h => h) (by kernel_rfl) ?_
              simp only [Act.put, List.setIfInBounds_toArray, List.set_cons_zero, List.set_cons_succ]
              refine takeNo 17 42 rfl rfl (by kernel_rfl) (by kernel_rfl) (by kernel_rfl) (fun _ _ _ _ h => h) (by kernel_rfl) ?_
              simp only [Act.put, List.setIfInBounds_toArray, List.set_cons_zero, List.set_cons_succ]
              refine takeNo 18 43 rfl rfl (by kernel_rfl) (by kernel_rfl) (by kernel_rfl) (fun _ _ _ _ h => h) (by kernel_rfl) ?_
              simp only [Act.put, List.setIfInBounds_toArray, List.set_cons_zero, List.set_cons_succ]
              refine takeNo 19 44 rfl rfl (by kernel_rfl) (by kernel_rfl) (by kernel_rfl) (fun _ _ _ _ h => h) (by kernel_rfl) ?_
              simp only [Act.put, List.setIfInBounds_toArray, List.set_cons_zero, List.set_cons_succ]
              refine takeNo 20 45 rfl rfl (by kernel_rfl) (by kernel_rfl) (by kernel_rfl) (fun _ _ _ _ h => h) (by kernel_rfl) ?_
              simp only [Act.put, List.setIfInBounds_toArray, List.set_cons_zero, List.set_cons_succ]
              refine takeNo 21 46 rfl rfl (by kernel_rfl) (by kernel_rfl) (by kernel_rfl) (fun _ _ _ _ h => h) (by kernel_rfl) ?_
              simp only [Act.put, List.setIfInBounds_toArray, List.set_cons_zero, List.set_cons_succ]
              refine takeNo 22 47 rfl rfl (by kernel_rfl) (by kernel_rfl) (by kernel_rfl) (fun _ _ _ _ h => h) (by kernel_rfl) ?_
              simp only [Act.put, List.setIfInBounds_toArray, List.set_cons_zero, List.set_cons_succ]
              refine takeYes 23 48 ?v9 rfl rfl (by kernel_rfl) (by kernel_rfl) (by kernel_rfl) (fun _ _ _ _ h => h) (by kernel_rfl) ?y9 ?r9
              case y9 => intro w; go_simp; first | done | with_reducible rfl
              simp only [Act.put, List.setIfInBounds_toArray, List.set_cons_zero, List.set_cons_succ]
              refine wpAny_done (by kernel_rfl) ?_ _
              have hxx := hxi.trans (hbx.trans ((Ext.refl _).drew.trans hx3))
              have HX := Lib.hid hxx
              clear hxx
              go_wp2
              go_roundw
              case rel => exact ⟨k + 1, by omega, by go_num, by rw [HS.out], HX.out⟩
              case measure => simp [intOf]; omega
            · have HI := Lib.hid hin
              by_cases hneg : bestN xs (nthS ls q) y k < 0
              · have hsame : bestN xs (nthS ls q) y (k + 1) = (k : Int) := by rw [HST.out, hin, if_pos rfl, bestS_new HL.out hneg]
                have HS := Lib.hid hsame
                clear hsame hin
                go_wp2
                refine wp_region_any (by kernel_rfl) ?_
                try (change wpAny _ _ _ _ _ _ _ (World.drew _))
                refine takeYes 0 25 ?v10 rfl rfl (by kernel_rfl) (by kernel_rfl) (by kernel_rfl) (fun _ _ _ _ h => h) (by kernel_rfl) ?y10 ?r10
                case y10 => intro w; go_simp; first | done | with_reducible rfl
                simp only [Act.put, List.setIfInBounds_toArray, List.set_cons_zero, List.set_cons_succ]
                refine takeYes 2 27 ?v11 rfl rfl (by kernel_rfl) (by kernel_rfl) (by kernel_rfl) (fun _ _ _ _ h => h) (by kernel_rfl) ?y11 ?r11
                case y11 => intro w; go_simp; first | done | with_reducible rfl
                simp only [Act.put, List.setIfInBounds_toArray, List.set_cons_zero, List.set_cons_succ]
                refine wpAny_ready (rs := [1]) (by kernel_rfl) (by simp) ?_
                refine AllReady.cons rfl (fun K hK => ?_) AllReady.nil
                go_simp
                refine hK _ _ ?_
                clear hK K
                try simp only [Act.put, List.setIfInBounds_toArray, List.set_cons_zero, List.set_cons_succ]
                refine takeYes 3 28 ?v12 rfl rfl (by kernel_rfl) (by kernel_rfl) (by kernel_rfl) (fun _ _ _ _ h => h) (by kernel_rfl) ?y12 ?r12
                case y12 => intro w; go_simp; first | done | with_reducible rfl
                simp only [Act.put, List.setIfInBounds_toArray, List.set_cons_zero, List.set_cons_succ]
                refine takeYes 4 29 ?v13 rfl rfl (by kernel_rfl) (by kernel_rfl) (by kernel_rfl) (fun _ _ _ _ h => h) (by kernel_rfl) ?y13 ?r13
                case y13 => intro w; go_simp; first | done | with_reducible rfl
                simp only [Act.put, List.setIfInBounds_toArray, List.set_cons_zero, List.set_cons_succ]
                refine takeYes 5 30 ?v14 rfl rfl (by kernel_rfl) (by kernel_rfl) (by kernel_rfl) (fun _ _ _ _ h => h) (by kernel_rfl) ?y14 ?r14
                case y14 => intro w; go_simp; first | done | with_reducible rfl
                simp only [Act.put, List.setIfInBounds_toArray, List.set_cons_zero, List.set_cons_succ]
                refine takeYes 7 32 ?v15 rfl rfl (by kernel_rfl) (by kernel_rfl) (by kernel_rfl) (fun _ _ _ _ h => h) (by kernel_rfl) ?y15 ?r15
                case y15 => intro w; go_simp; first | done | with_reducible rfl
                simp only [Act.put, List.setIfInBounds_toArray, List.set_cons_zero, List.set_cons_succ]
                refine wpAny_ready (rs := [6]) (by kernel_rfl) (by simp) ?_
                refine AllReady.cons rfl (fun K hK => ?_) AllReady.nil
                go_simp
                refine hK _ _ ?_
                clear hK K
                try simp only [Act.put, List.setIfInBounds_toArray, List.set_cons_zero, List.set_cons_succ]
                refine wpAny_ready (rs := [8]) (by kernel_rfl) (by simp) ?_
                refine AllReady.cons rfl (fun K hK => ?_) AllReady.nil
                go_simp
                refine (has_any ⟨(nthName xs k).from_, (nthName xs k).to_⟩ y _).mono ?_
                rintro e w3 ⟨rfl, hx3⟩
                rw [show inB y (nthName xs k).from_ (nthName xs k).to_ = true from HI.out]
                have z1 := (Below.cell ((Ext.refl _).drew.trans hx3) (p := ⟨wr.heap.size, 1, none⟩) hbs).trans bx1
                have z2 := (Below.cell ((Ext.refl _).drew.trans hx3) (p := ⟨wr.heap.size, 2, none⟩) hbs).trans bx2
                have z3 := (Below.cell ((Ext.refl _).drew.trans hx3) (p := ⟨wr.heap.size, 3, none⟩) hbs).trans bx3
                have z4 := (Below.cell ((Ext.refl _).drew.trans hx3) (p := ⟨wr.heap.size, 4, none⟩) hbs).trans bx4
                go_wp2_with fail
                try simp only [Act.put, List.setIfInBounds_toArray, List.set_cons_zero, List.set_cons_succ]
                refine takeYes 9 34 ?v16 rfl rfl (by kernel_rfl) (by kernel_rfl) (by kernel_rfl) (fun _ _ _ _ h => h) (by kernel_rfl) ?y16 ?r16
                case y16 => intro w; go_simp; first | done | with_reducible rfl
                simp only [Act.put, List.setIfInBounds_toArray, List.set_cons_zero, List.set_cons_succ]
                refine takeYes 10 35 ?v17 rfl rfl (by kernel_rfl) (by kernel_rfl) (by kernel_rfl) (fun _ _ _ _ h => h) (by kernel_rfl) ?y17 ?r17
                case y17 => intro w; go_simp; first | done | with_reducible rfl
                simp only [Act.put, List.setIfInBounds_toArray, List.set_cons_zero, List.set_cons_succ]
                refine takeYes 11 36 ?v18 rfl rfl (by kernel_rfl) (by kernel_rfl) (by kernel_rfl) (fun _ _ _ _ h => h) (by kernel_rfl) ?y18 ?r18
                case y18 => intro w; go_simp; first | done | with_reducible rfl
                simp only [Act.put, List.setIfInBounds_toArray, List.set_cons_zero, List.set_cons_succ]
                refine takeYes 12 37 ?v19 rfl rfl (by kernel_rfl) (by kernel_rfl) (by kernel_rfl) (fun _ _ _ _ h => h) (by kernel_rfl) ?y19 ?r19
                case y19 => intro w; go_simp; first | done | with_reducible rfl
                simp only [Act.put, List.setIfInBounds_toArray, List.set_cons_zero, List.set_cons_succ]
                refine takeYes 13 38 ?v20 rfl rfl (by kernel_rfl) (by kernel_rfl) (by kernel_rfl) (fun _ _ _ _ h => h) (by kernel_rfl) ?y20 ?r20
                case y20 => intro w; go_simp; first | done | with_reducible rfl
                simp only [Act.put, List.setIfInBounds_toArray, List.set_cons_zero, List.set_cons_succ]
                refine takeNo 14 39 rfl rfl (by kernel_rfl) (by kernel_rfl) (by kernel_rfl) (fun _ _ _ _ h => h) (by kernel_rfl) ?_
                simp only [Act.put, List.setIfInBounds_toArray, List.set_cons_zero, List.set_cons_succ]
                refine takeNo 15 40 rfl rfl (by kernel_rfl) (by kernel_rfl) (by kernel_rfl) (fun _ _ _ _ h => h) (by kernel_rfl) ?_
                simp only [Act.put, List.setIfInBounds_toArray, List.set_cons_zero, List.set_cons_succ]
                refine takeNo 16 41 rfl rfl (by kernel_rfl) (by kernel_rfl) (by kernel_rfl) (fun _ _ _ _ h => h) (by kernel_rfl) ?_
                simp only [Act.put, List.setIfInBounds_toArray, List.set_cons_zero, List.set_cons_succ]
                refine takeNo 17 42 rfl rfl (by kernel_rfl) (by kernel_rfl) (by kernel_rfl) (fun _ _ _ _ h => h) (by kernel_rfl) ?_
                simp only [Act.put, List.setIfInBounds_toArray, List.set_cons_zero, List.set_cons_succ]
                refine takeNo 18 43 rfl rfl (by kernel_rfl) (by kernel_rfl) (by kernel_rfl) (fun _ _ _ _ h => h) (by kernel_rfl) ?_
                simp only [Act.put, List.setIfInBounds_toArray, List.set_cons_zero, List.set_cons_succ]
                refine takeNo 19 44 rfl rfl (by kernel_rfl) (by kernel_rfl) (by kernel_rfl) (fun _ _ _ _ h => h) (by kernel_rfl) ?_
                simp only [Act.put, List.setIfInBounds_toArray, List.set_cons_zero, List.set_cons_succ]
                refine takeNo 20 45 rfl rfl (by kernel_rfl) (by kernel_rfl) (by kernel_rfl) (fun _ _ _ _ h => h) (by kernel_rfl) ?_
                simp only [Act.put, List.setIfInBounds_toArray, List.set_cons_zero, List.set_cons_succ]
                refine takeNo 21 46 rfl rfl (by kernel_rfl) (by kernel_rfl) (by kernel_rfl) (fun _ _ _ _ h => h) (by kernel_rfl) ?_
                simp only [Act.put, List.setIfInBounds_toArray, List.set_cons_zero, List.set_cons_succ]
                refine takeYes 22 47 ?v21 rfl rfl (by kernel_rfl) (by kernel_rfl) (by kernel_rfl) (fun _ _ _ _ h => h) (by kernel_rfl) ?y21 ?r21
                case y21 => intro w; go_simp; first | done | with_reducible rfl
                simp only [Act.put, List.setIfInBounds_toArray, List.set_cons_zero, List.set_cons_succ]
                refine takeYes 23 48 ?v22 rfl rfl (by kernel_rfl) (by kernel_rfl) (by kernel_rfl) (fun _ _ _ _ h => h) (by kernel_rfl) ?y22 ?r22
                case y22 => intro w; go_simp; first | done | with_reducible rfl
                simp only [Act.put, List.setIfInBounds_toArray, List.set_cons_zero, List.set_cons_succ]
                refine wpAny_done (by kernel_rfl) ?_ _
                have hxx := hxi.trans (hbx.trans ((Ext.refl _).drew.trans hx3))
                have HX := Lib.hid hxx
                clear hxx
                go_wp2
                go_roundw
                case rel => exact ⟨k + 1, by omega, by go_num, by rw [HS.out], HX.out⟩
                case measure => simp [intOf]; omega
              · obtain ⟨bb, hbb⟩ := Int.eq_ofNat_of_zero_le (show 0 ≤ bestN xs (nthS ls q) y k by omega)
                rw [hbb] at hrg hneg ⊢
                have hbbn : bb < n := by omega
                obtain ⟨_, _, g2, _, _⟩ := HA.out bb hbbn
                have g2w := (Below.cell hbx (p := ⟨b, o + bb * 5 + 2, none⟩) hbl).trans g2
                have hbl2x := Nat.lt_of_lt_of_le hbl hbx.size
                have hbi : (bb : Int) < n := by omega
                have hb0 : (0 : Int) ≤ bb := by omega
                by_cases hlt2 : (nthName xs k).status < (nthName xs bb).status
                · have hsame : bestN xs (nthS ls q) y (k + 1) = (k : Int) := by rw [HST.out, hin, if_pos rfl, hbb]; exact bestS_more HL.out hlt2
                  have HS := Lib.hid hsame
                  clear hsame hin hbb
                  go_wp2
                  refine wp_region_any (by kernel_rfl) ?_
                  try (change wpAny _ _ _ _ _ _ _ (World.drew _))
                  refine takeYes 0 25 ?v23 rfl rfl (by kernel_rfl) (by kernel_rfl) (by kernel_rfl) (fun _ _ _ _ h => h) (by kernel_rfl) ?y23 ?r23
                  case y23 => intro w; go_simp; first | done | with_reducible rfl
                  simp only [Act.put, List.setIfInBounds_toArray, List.set_cons_zero, List.set_cons_succ]
                  refine takeYes 2 27 ?v24 rfl rfl (by kernel_rfl) (by kernel_rfl) (by kernel_rfl) (fun _ _ _ _ h => h) (by kernel_rfl) ?y24 ?r24
                  case y24 => intro w; go_simp; first | done | with_reducible rfl
                  simp only [Act.put, List.setIfInBounds_toArray, List.set_cons_zero, List.set_cons_succ]
                  refine wpAny_ready (rs := [1]) (by kernel_rfl) (by simp) ?_
                  refine AllReady.cons rfl (fun K hK => ?_) AllReady.nil
                  go_simp
                  refine hK _ _ ?_
                  clear hK K
                  try simp only [Act.put, List.setIfInBounds_toArray, List.set_cons_zero, List.set_cons_succ]
                  refine takeYes 3 28 ?v25 rfl rfl (by kernel_rfl) (by kernel_rfl) (by kernel_rfl) (fun _ _ _ _ h => h) (by kernel_rfl) ?y25 ?r25
                  case y25 => intro w; go_simp; first | done | with_reducible rfl
                  simp only [Act.put, List.setIfInBounds_toArray, List.set_cons_zero, List.set_cons_succ]
                  refine takeYes 4 29 ?v26 rfl rfl (by kernel_rfl) (by kernel_rfl) (by kernel_rfl) (fun _ _ _ _ h => h) (by kernel_rfl) ?y26 ?r26
                  case y26 => intro w; go_simp; first | done | with_reducible rfl
                  simp only [Act.put, List.setIfInBounds_toArray, List.set_cons_zero, List.set_cons_succ]
                  refine takeYes 5 30 ?v27 rfl rfl (by kernel_rfl) (by kernel_rfl) (by kernel_rfl) (fun _ _ _ _ h => h) (by kernel_rfl) ?y27 ?r27
                  case y27 => intro w; go_simp; first | done | with_reducible rfl
                  simp only [Act.put, List.setIfInBounds_toArray, List.set_cons_zero, List.set_cons_succ]
                  refine takeYes 7 32 ?v28 rfl rfl (by kernel_rfl) (by kernel_rfl) (by kernel_rfl) (fun _ _ _ _ h => h) (by kernel_rfl) ?y28 ?r28
                  case y28 => intro w; go_simp; first | done | with_reducible rfl
                  simp only [Act.put, List.setIfInBounds_toArray, List.set_cons_zero, List.set_cons_succ]
                  refine wpAny_ready (rs := [6]) (by kernel_rfl) (by simp) ?_
                  refine AllReady.cons rfl (fun K hK => ?_) AllReady.nil
                  go_simp
                  refine hK _ _ ?_
                  clear hK K
                  try simp only [Act.put, List.setIfInBounds_toArray, List.set_cons_zero, List.set_cons_succ]
                  refine wpAny_ready (rs := [8]) (by kernel_rfl) (by simp) ?_
                  refine AllReady.cons rfl (fun K hK => ?_) AllReady.nil
                  go_simp
                  refine (has_any ⟨(nthName xs k).from_, (nthName xs k).to_⟩ y _).mono ?_
                  rintro e w3 ⟨rfl, hx3⟩
                  rw [show inB y (nthName xs k).from_ (nthName xs k).to_ = true from HI.out]
                  have z1 := (Below.cell ((Ext.refl _).drew.trans hx3) (p := ⟨wr.heap.size, 1, none⟩) hbs).trans bx1
                  have z2 := (Below.cell ((Ext.refl _).drew.trans hx3) (p := ⟨wr.heap.size, 2, none⟩) hbs).trans bx2
                  have z3 := (Below.cell ((Ext.refl _).drew.trans hx3) (p := ⟨wr.heap.size, 3, none⟩) hbs).trans bx3
                  have z4 := (Below.cell ((Ext.refl _).drew.trans hx3) (p := ⟨wr.heap.size, 4, none⟩) hbs).trans bx4
                  have z5 := (Below.cell ((Ext.refl _).drew.trans hx3) (p := ⟨b, o + bb * 5 + 2, none⟩) hbl2x).trans g2w
                  go_wp2_with fail
                  try simp only [Act.put, List.setIfInBounds_toArray, List.set_cons_zero, List.set_cons_succ]
                  refine takeYes 9 34 ?v29 rfl rfl (by kernel_rfl) (by kernel_rfl) (by kernel_rfl) (fun _ _ _ _ h => h) (by kernel_rfl) ?y29 ?r29
                  case y29 => intro w; go_simp; first | done | with_reducible rfl
                  simp only [Act.put, List.setIfInBounds_toArray, List.set_cons_zero, List.set_cons_succ]
                  refine takeYes 10 35 ?v30 rfl rfl (by kernel_rfl) (by kernel_rfl) (by kernel_rfl) (fun _ _ _ _ h => h) (by kernel_rfl) ?y30 ?r30
                  case y30 => intro w; go_simp; first | done | with_reducible rfl
                  simp only [Act.put, List.setIfInBounds_toArray, List.set_cons_zero, List.set_cons_succ]
                  refine takeYes 11 36 ?v31 rfl rfl (by kernel_rfl) (by kernel_rfl) (by kernel_rfl) (fun _ _ _ _ h => h) (by kernel_rfl) ?y31 ?r31
                  case y31 => intro w; go_simp; first | done | with_reducible rfl
                  simp only [Act.put, List.setIfInBounds_toArray, List.set_cons_zero, List.set_cons_succ]
                  refine takeYes 12 37 ?v32 rfl rfl (by kernel_rfl) (by kernel_rfl) (by kernel_rfl) (fun _ _ _ _ h => h) (by kernel_rfl) ?y32 ?r32
                  case y32 => intro w; go_simp; first | done | with_reducible rfl
                  simp only [Act.put, List.setIfInBounds_toArray, List.set_cons_zero, List.set_cons_succ]
                  refine takeYes 13 38 ?v33 rfl rfl (by kernel_rfl) (by kernel_rfl) (by kernel_rfl) (fun _ _ _ _ h => h) (by kernel_rfl) ?y33 ?r33
                  case y33 => intro w; go_simp; first | done | with_reducible rfl
                  simp only [Act.put, List.setIfInBounds_toArray, List.set_cons_zero, List.set_cons_succ]
                  refine takeYes 14 39 ?v34 rfl rfl (by kernel_rfl) (by kernel_rfl) (by kernel_rfl) (fun _ _ _ _ h => h) (by kernel_rfl) ?y34 ?r34
                  case y34 => intro w; go_simp; first | done | with_reducible rfl
                  simp only [Act.put, List.setIfInBounds_toArray, List.set_cons_zero, List.set_cons_succ]
                  refine takeYes 16 41 ?v35 rfl rfl (by kernel_rfl) (by kernel_rfl) (by kernel_rfl) (fun _ _ _ _ h => h) (by kernel_rfl) ?y35 ?r35
                  case y35 => intro w; go_simp; first | done | with_reducible rfl
                  simp only [Act.put, List.setIfInBounds_toArray, List.set_cons_zero, List.set_cons_succ]
                  refine takeYes 17 42 ?v36 rfl rfl (by kernel_rfl) (by kernel_rfl) (by kernel_rfl) (fun _ _ _ _ h => h) (by kernel_rfl) ?y36 ?r36
                  case y36 => intro w; go_simp; first | done | with_reducible rfl
                  simp only [Act.put, List.setIfInBounds_toArray, List.set_cons_zero, List.set_cons_succ]
                  refine takeYes 18 43 ?v37 rfl rfl (by kernel_rfl) (by kernel_rfl) (by kernel_rfl) (fun _ _ _ _ h => h) (by kernel_rfl) ?y37 ?r37
                  case y37 => intro w; go_simp; first | done | with_reducible rfl
                  simp only [Act.put, List.setIfInBounds_toArray, List.set_cons_zero, List.set_cons_succ]
                  refine takeYes 19 44 ?v38 rfl rfl (by kernel_rfl) (by kernel_rfl) (by kernel_rfl) (fun _ _ _ _ h => h) (by kernel_rfl) ?y38 ?r38
                  case y38 => intro w; go_simp; first | done | with_reducible rfl
                  simp only [Act.put, List.setIfInBounds_toArray, List.set_cons_zero, List.set_cons_succ]
                  refine wpAny_ready (rs := [15, 20]) (by kernel_rfl) (by simp) ?_
                  refine AllReady.cons rfl (fun K hK => ?_) (AllReady.cons rfl (fun K hK => ?_) AllReady.nil)
                  · go_simp
                    refine hK _ _ ?_
                    clear hK K
                    try simp only [Act.put, List.setIfInBounds_toArray, List.set_cons_zero, List.set_cons_succ]
                    refine wpAny_ready (rs := [20]) (by kernel_rfl) (by simp) ?_
                    refine AllReady.cons rfl (fun K hK => ?_) AllReady.nil
                    go_simp
                    refine hK _ _ ?_
                    clear hK K
                    try simp only [Act.put, List.setIfInBounds_toArray, List.set_cons_zero, List.set_cons_succ]
                    refine takeYes 21 46 ?v39 rfl rfl (by kernel_rfl) (by kernel_rfl) (by kernel_rfl) (fun _ _ _ _ h => h) (by kernel_rfl) ?y39 ?r39
                    case y39 => intro w; go_simp; first | done | with_reducible rfl
                    simp only [Act.put, List.setIfInBounds_toArray, List.set_cons_zero, List.set_cons_succ]
                    refine takeYes 22 47 ?v40 rfl rfl (by kernel_rfl) (by kernel_rfl) (by kernel_rfl) (fun _ _ _ _ h => h) (by kernel_rfl) ?y40 ?r40
                    case y40 => intro w; go_simp; first | done | with_reducible rfl
                    simp only [Act.put, List.setIfInBounds_toArray, List.set_cons_zero, List.set_cons_succ]
                    refine takeYes 23 48 ?v41 rfl rfl (by kernel_rfl) (by kernel_rfl) (by kernel_rfl) (fun _ _ _ _ h => h) (by kernel_rfl) ?y41 ?r41
                    case y41 => intro w; go_simp; first | done | with_reducible rfl
                    simp only [Act.put, List.setIfInBounds_toArray, List.set_cons_zero, List.set_cons_succ]
                    refine wpAny_done (by kernel_rfl) ?_ _
                    have hxx := hxi.trans (hbx.trans ((Ext.refl _).drew.trans hx3))
                    have HX := Lib.hid hxx
                    clear hxx
                    go_wp2
                    go_roundw
                    case rel => exact ⟨k + 1, by omega, by go_num, by rw [HS.out], HX.out⟩
                    case measure => simp [intOf]; omega
                  · go_simp
                    refine hK _ _ ?_
                    clear hK K
                    try simp only [Act.put, List.setIfInBounds_toArray, List.set_cons_zero, List.set_cons_succ]
                    refine wpAny_ready (rs := [15]) (by kernel_rfl) (by simp) ?_
                    refine AllReady.cons rfl (fun K hK => ?_) AllReady.nil
                    go_simp
                    refine hK _ _ ?_
                    clear hK K
                    try simp only [Act.put, List.setIfInBounds_toArray, List.set_cons_zero, List.set_cons_succ]
                    refine takeYes 21 46 ?v42 rfl rfl (by kernel_rfl) (by kernel_rfl) (by kernel_rfl) (fun _ _ _ _ h => h) (by kernel_rfl) ?y42 ?r42
                    case y42 => intro w; go_simp; first | done | with_reducible rfl
                    simp only [Act.put, List.setIfInBounds_toArray, List.set_cons_zero, List.set_cons_succ]
                    refine takeYes 22 47 ?v43 rfl rfl (by kernel_rfl) (by kernel_rfl) (by kernel_rfl) (fun _ _ _ _ h => h) (by kernel_rfl) ?y43 ?r43
                    case y43 => intro w; go_simp; first | done | with_reducible rfl
                    simp only [Act.put, List.setIfInBounds_toArray, List.set_cons_zero, List.set_cons_succ]
                    refine takeYes 23 48 ?v44 rfl rfl (by kernel_rfl) (by kernel_rfl) (by kernel_rfl) (fun _ _ _ _ h => h) (by kernel_rfl) ?y44 ?r44
                    case y44 => intro w; go_simp; first | done | with_reducible rfl
                    simp only [Act.put, List.setIfInBounds_toArray, List.set_cons_zero, List.set_cons_succ]
                    refine wpAny_done (by kernel_rfl) ?_ _
                    have hxx := hxi.trans (hbx.trans ((Ext.refl _).drew.trans hx3))
                    have HX := Lib.hid hxx
                    clear hxx
                    go_wp2
                    go_roundw
                    case rel => exact ⟨k + 1, by omega, by go_num, by rw [HS.out], HX.out⟩
                    case measure => simp [intOf]; omega
                · have hsame : bestN xs (nthS ls q) y (k + 1) = (bb : Int) := by rw [HST.out, hin, if_pos rfl, hbb]; exact bestS_less hlt2
                  have HS := Lib.hid hsame
                  clear hsame hin hbb
                  go_wp2
                  refine wp_region_any (by kernel_rfl) ?_
                  try (change wpAny _ _ _ _ _ _ _ (World.drew _))
                  refine takeYes 0 25 ?v45 rfl rfl (by kernel_rfl) (by kernel_rfl) (by kernel_rfl) (fun _ _ _ _ h => h) (by kernel_rfl) ?y45 ?r45
                  case y45 => intro w; go_simp; first | done | with_reducible rfl
                  simp only [Act.put, List.setIfInBounds_toArray, List.set_cons_zero, List.set_cons_succ]
                  refine takeYes 2 27 ?v46 rfl rfl (by kernel_rfl) (by kernel_rfl) (by kernel_rfl) (fun _ _ _ _ h => h) (by kernel_rfl) ?y46 ?r46
                  case y46 => intro w; go_simp; first | done | with_reducible rfl
                  simp only [Act.put, List.setIfInBounds_toArray, List.set_cons_zero, List.set_cons_succ]
                  refine wpAny_ready (rs := [1]) (by kernel_rfl) (by simp) ?_
                  refine AllReady.cons rfl (fun K hK => ?_) AllReady.nil
                  go_simp
                  refine hK _ _ ?_
                  clear hK K
                  try simp only [Act.put, List.setIfInBounds_toArray, List.set_cons_zero, List.set_cons_succ]
                  refine takeYes 3 28 ?v47 rfl rfl (by kernel_rfl) (by kernel_rfl) (by kernel_rfl) (fun _ _ _ _ h => h) (by kernel_rfl) ?y47 ?r47
                  case y47 => intro w; go_simp; first | done | with_reducible rfl
                  simp only [Act.put, List.setIfInBounds_toArray, List.set_cons_zero, List.set_cons_succ]
                  refine takeYes 4 29 ?v48 rfl rfl (by kernel_rfl) (by kernel_rfl) (by kernel_rfl) (fun _ _ _ _ h => h) (by kernel_rfl) ?y48 ?r48
                  case y48 => intro w; go_simp; first | done | with_reducible rfl
                  simp only [Act.put, List.setIfInBounds_toArray, List.set_cons_zero, List.set_cons_succ]
                  refine takeYes 5 30 ?v49 rfl rfl (by kernel_rfl) (by kernel_rfl) (by kernel_rfl) (fun _ _ _ _ h => h) (by kernel_rfl) ?y49 ?r49
                  case y49 => intro w; go_simp; first | done | with_reducible rfl
                  simp only [Act.put, List.setIfInBounds_toArray, List.set_cons_zero, List.set_cons_succ]
                  refine takeYes 7 32 ?v50 rfl rfl (by kernel_rfl) (by kernel_rfl) (by kernel_rfl) (fun _ _ _ _ h => h) (by kernel_rfl) ?y50 ?r50
                  case y50 => intro w; go_simp; first | done | with_reducible rfl
                  simp only [Act.put, List.setIfInBounds_toArray, List.set_cons_zero, List.set_cons_succ]
                  refine wpAny_ready (rs := [6]) (by kernel_rfl) (by simp) ?_
                  refine AllReady.cons rfl (fun K hK => ?_) AllReady.nil
                  go_simp
                  refine hK _ _ ?_
                  clear hK K
                  try simp only [Act.put, List.setIfInBounds_toArray, List.set_cons_zero, List.set_cons_succ]
                  refine wpAny_ready (rs := [8]) (by kernel_rfl) (by simp) ?_
                  refine AllReady.cons rfl (fun K hK => ?_) AllReady.nil
                  go_simp
                  refine (has_any ⟨(nthName xs k).from_, (nthName xs k).to_⟩ y _).mono ?_
                  rintro e w3 ⟨rfl, hx3⟩
                  rw [show inB y (nthName xs k).from_ (nthName xs k).to_ = true from HI.out]
                  have z1 := (Below.cell ((Ext.refl _).drew.trans hx3) (p := ⟨wr.heap.size, 1, none⟩) hbs).trans bx1
                  have z2 := (Below.cell ((Ext.refl _).drew.trans hx3) (p := ⟨wr.heap.size, 2, none⟩) hbs).trans bx2
                  have z3 := (Below.cell ((Ext.refl _).drew.trans hx3) (p := ⟨wr.heap.size, 3, none⟩) hbs).trans bx3
                  have z4 := (Below.cell ((Ext.refl _).drew.trans hx3) (p := ⟨wr.heap.size, 4, none⟩) hbs).trans bx4
                  have z5 := (Below.cell ((Ext.refl _).drew.trans hx3) (p := ⟨b, o + bb * 5 + 2, none⟩) hbl2x).trans g2w
                  go_wp2_with fail
                  try simp only [Act.put, List.setIfInBounds_toArray, List.set_cons_zero, List.set_cons_succ]
                  refine takeYes 9 34 ?v51 rfl rfl (by kernel_rfl) (by kernel_rfl) (by kernel_rfl) (fun _ _ _ _ h => h) (by kernel_rfl) ?y51 ?r51
                  case y51 => intro w; go_simp; first | done | with_reducible rfl
                  simp only [Act.put, List.setIfInBounds_toArray, List.set_cons_zero, List.set_cons_succ]
                  refine takeYes 10 35 ?v52 rfl rfl (by kernel_rfl) (by kernel_rfl) (by kernel_rfl) (fun _ _ _ _ h => h) (by kernel_rfl) ?y52 ?r52
                  case y52 => intro w; go_simp; first | done | with_reducible rfl
                  simp only [Act.put, List.setIfInBounds_toArray, List.set_cons_zero, List.set_cons_succ]
                  refine takeYes 11 36 ?v53 rfl rfl (by kernel_rfl) (by kernel_rfl) (by kernel_rfl) (fun _ _ _ _ h => h) (by kernel_rfl) ?y53 ?r53
                  case y53 => intro w; go_simp; first | done | with_reducible rfl
                  simp only [Act.put, List.setIfInBounds_toArray, List.set_cons_zero, List.set_cons_succ]
                  refine takeYes 12 37 ?v54 rfl rfl (by kernel_rfl) (by kernel_rfl) (by kernel_rfl) (fun _ _ _ _ h => h) (by kernel_rfl) ?y54 ?r54
                  case y54 => intro w; go_simp; first | done | with_reducible rfl
                  simp only [Act.put, List.setIfInBounds_toArray, List.set_cons_zero, List.set_cons_succ]
                  refine takeYes 13 38 ?v55 rfl rfl (by kernel_rfl) (by kernel_rfl) (by kernel_rfl) (fun _ _ _ _ h => h) (by kernel_rfl) ?y55 ?r55
                  case y55 => intro w; go_simp; first | done | with_reducible rfl
                  simp only [Act.put, List.setIfInBounds_toArray, List.set_cons_zero, List.set_cons_succ]
                  refine takeYes 14 39 ?v56 rfl rfl (by kernel_rfl) (by kernel_rfl) (by kernel_rfl) (fun _ _ _ _ h => h) (by kernel_rfl) ?y56 ?r56
                  case y56 => intro w; go_simp; first | done | with_reducible rfl
                  simp only [Act.put, List.setIfInBounds_toArray, List.set_cons_zero, List.set_cons_succ]
                  refine takeYes 16 41 ?v57 rfl rfl (by kernel_rfl) (by kernel_rfl) (by kernel_rfl) (fun _ _ _ _ h => h) (by kernel_rfl) ?y57 ?r57
                  case y57 => intro w; go_simp; first | done | with_reducible rfl
                  simp only [Act.put, List.setIfInBounds_toArray, List.set_cons_zero, List.set_cons_succ]
                  refine takeYes 17 42 ?v58 rfl rfl (by kernel_rfl) (by kernel_rfl) (by kernel_rfl) (fun _ _ _ _ h => h) (by kernel_rfl) ?y58 ?r58
                  case y58 => intro w; go_simp; first | done | with_reducible rfl
                  simp only [Act.put, List.setIfInBounds_toArray, List.set_cons_zero, List.set_cons_succ]
                  refine takeYes 18 43 ?v59 rfl rfl (by kernel_rfl) (by kernel_rfl) (by kernel_rfl) (fun _ _ _ _ h => h) (by kernel_rfl) ?y59 ?r59
                  case y59 => intro w; go_simp; first | done | with_reducible rfl
                  simp only [Act.put, List.setIfInBounds_toArray, List.set_cons_zero, List.set_cons_succ]
                  refine takeYes 19 44 ?v60 rfl rfl (by kernel_rfl) (by kernel_rfl) (by kernel_rfl) (fun _ _ _ _ h => h) (by kernel_rfl) ?y60 ?r60
                  case y60 => intro w; go_simp; first | done | with_reducible rfl
                  simp only [Act.put, List.setIfInBounds_toArray, List.set_cons_zero, List.set_cons_succ]
                  refine wpAny_ready (rs := [15, 20]) (by kernel_rfl) (by simp) ?_
                  refine AllReady.cons rfl (fun K hK => ?_) (AllReady.cons rfl (fun K hK => ?_) AllReady.nil)
                  · go_simp
                    refine hK _ _ ?_
                    clear hK K
                    try simp only [Act.put, List.setIfInBounds_toArray, List.set_cons_zero, List.set_cons_succ]
                    refine wpAny_ready (rs := [20]) (by kernel_rfl) (by simp) ?_
                    refine AllReady.cons rfl (fun K hK => ?_) AllReady.nil
                    go_simp
                    refine hK _ _ ?_
                    clear hK K
                    try simp only [Act.put, List.setIfInBounds_toArray, List.set_cons_zero, List.set_cons_succ]
                    refine takeYes 21 46 ?v61 rfl rfl (by kernel_rfl) (by kernel_rfl) (by kernel_rfl) (fun _ _ _ _ h => h) (by kernel_rfl) ?y61 ?r61
                    case y61 => intro w; go_simp; first | done | with_reducible rfl
                    simp only [Act.put, List.setIfInBounds_toArray, List.set_cons_zero, List.set_cons_succ]
                    refine takeYes 22 47 ?v62 rfl rfl (by kernel_rfl) (by kernel_rfl) (by kernel_rfl) (fun _ _ _ _ h => h) (by kernel_rfl) ?y62 ?r62
                    case y62 => intro w; go_simp; first | done | with_reducible rfl
                    simp only [Act.put, List.setIfInBounds_toArray, List.set_cons_zero, List.set_cons_succ]
                    refine takeYes 23 48 ?v63 rfl rfl (by kernel_rfl) (by kernel_rfl) (by kernel_rfl) (fun _ _ _ _ h => h) (by kernel_rfl) ?y63 ?r63
                    case y63 => intro w; go_simp; first | done | with_reducible rfl
                    simp only [Act.put, List.setIfInBounds_toArray, List.set_cons_zero, List.set_cons_succ]
                    refine wpAny_done (by kernel_rfl) ?_ _
                    have hxx := hxi.trans (hbx.trans ((Ext.refl _).drew.trans hx3))
                    have HX := Lib.hid hxx
                    clear hxx
                    go_wp2
                    go_roundw
                    case rel => exact ⟨k + 1, by omega, by go_num, by rw [HS.out], HX.out⟩
                    case measure => simp [intOf]; omega
                  · go_simp
                    refine hK _ _ ?_
                    clear hK K
                    try simp only [Act.put, List.setIfInBounds_toArray, List.set_cons_zero, List.set_cons_succ]
                    refine wpAny_ready (rs := [15]) (by kernel_rfl) (by simp) ?_
                    refine AllReady.cons rfl (fun K hK => ?_) AllReady.nil
                    go_simp
                    refine hK _ _ ?_
                    clear hK K
                    try simp only [Act.put, List.setIfInBounds_toArray, List.set_cons_zero, List.set_cons_succ]
                    refine takeYes 21 46 ?v64 rfl rfl (by kernel_rfl) (by kernel_rfl) (by kernel_rfl) (fun _ _ _ _ h => h) (by kernel_rfl) ?y64 ?r64
                    case y64 => intro w; go_simp; first | done | with_reducible rfl
                    simp only [Act.put, List.setIfInBounds_toArray, List.set_cons_zero, List.set_cons_succ]
                    refine takeYes 22 47 ?v65 rfl rfl (by kernel_rfl) (by kernel_rfl) (by kernel_rfl) (fun _ _ _ _ h => h) (by kernel_rfl) ?y65 ?r65
                    case y65 => intro w; go_simp; first | done | with_reducible rfl
                    simp only [Act.put, List.setIfInBounds_toArray, List.set_cons_zero, List.set_cons_succ]
                    refine takeYes 23 48 ?v66 rfl rfl (by kernel_rfl) (by kernel_rfl) (by kernel_rfl) (fun _ _ _ _ h => h) (by kernel_rfl) ?y66 ?r66
                    case y66 => intro w; go_simp; first | done | with_reducible rfl
                    simp only [Act.put, List.setIfInBounds_toArray, List.set_cons_zero, List.set_cons_succ]
                    refine wpAny_done (by kernel_rfl) ?_ _
                    have hxx := hxi.trans (hbx.trans ((Ext.refl _).drew.trans hx3))
                    have HX := Lib.hid hxx
                    clear hxx
                    go_wp2
                    go_roundw
                    case rel => exact ⟨k + 1, by omega, by go_num, by rw [HS.out], HX.out⟩
                    case measure => simp [intOf]; omega
          · have hbe := beqS_ne hl
            have HL := Lib.hid hl
            clear hl
            have hsame : bestN xs (nthS ls q) y (k + 1) = bestN xs (nthS ls q) y k := by
              rw [HST.out]; split
              · exact bestS_lang HL.out
              · rfl
            have HS := Lib.hid hsame
            clear hsame
            go_wp2
            go_quiet (fail)
            go_wp2
            go_roundw
            case rel => exact ⟨k + 1, by omega, by go_num, by rw [HS.out], (hxi.alloc _).trans ((Still.refl _).drewN _).ext⟩
            case measure => simp [intOf]; omega
        · obtain rfl : k = n := by omega
          have hall : bestN xs (nthS ls q) y k = bestA xs (nthS ls q) y := by rw [bestA, hln]
          by_cases h0 : 0 ≤ bestN xs (nthS ls q) y k
          · have H0 := Lib.hid hall
            clear hall
            go_wp2
            go_ret
            exact ⟨ret_int (by rw [H0.out, bestR_at (q := q) (by omega) (by rw [← H0.out]; exact h0) HQ.out]), hxw⟩
          · have H0 := Lib.hid hall
            clear hall
            go_wp2
            go_roundw
            case rel =>
              refine ⟨q + 1, by omega, by go_num, fun j hj => ?_, hxw⟩
              by_cases e : j = q
              · subst e; rw [← H0.out]; omega
              · exact HQ.out j (by omega)
            case measure => simp [intOf]; omega
    · obtain rfl : q = m := by omega
      go_wp2
      go_ret
      exact ⟨ret_int (bestR_none (fun j hj => HQ.out j (by omega))).symm, hx⟩

end Go.Proofs.YtjelmidkkpchkaaGreatDoor
end

section
namespace Go.Proofs.YtjelmidkkpchkaaGreatDoor
open Go.RowKit
attribute [local go_sem ↓] Go.wp_at_zero Go.wp_at_succ

set_option maxRecDepth 100000 in
set_option maxHeartbeats 4000000 in
theorem l09Best_any (a a2 : Option Addr) (n c m c2 : Nat) (y : Int) (xs : List NameV) (ls : List ByteArray) (w : World) (hr : RdName w a n xs) (hr2 : RdS w a2 m ls) :
    Calls Tryz.prog 67 #[.slice a n c, .slice a2 m c2, .int .i64 y] w fun e w' => e = .returned (.int .i64 (bestR xs ls y)) ∧ Ext w w' := by
  have hm := hr.le
  have hln := hr.len
  have hm2 := hr2.le
  have hln2 := hr2.len
  go_enter Tryz.func67, Tryz.ntmps67
  go_wp2_with fail
  refine (l09Used_any _ _ _ _ _ _ hr).mono ?_
  rintro e w1 ⟨v, rfl, a1, n1, c1, rfl, ho, x1⟩
  have hl1 : (usedX xs y).length = n1 := (usedX_len xs y).symm.trans ho.rd.len
  have hn1 : n1 ≤ n := by
    have h1 := selN_len xs.length (hasY xs y)
    have h2 := ho.rd.len
    rw [usedL] at h2
    omega
  go_wp2
  go_loopw [8] (fun i wr => ∃ q : Nat, q ≤ m ∧ i = .int .i64 q ∧ (∀ j, j < q → bestA xs (nthS ls j) y < 0) ∧ Ext w1 wr) (fun i _ => m - (intOf i).toNat)
  case atStart => exact ⟨0, Nat.zero_le _, rfl, fun j h => by omega, Ext.refl _⟩
  case round =>
    obtain ⟨q, hq, rfl, hall, hx⟩ := hrel
    have HQ := Lib.hid hall
    clear hall
    by_cases hlq : q < m
    · obtain ⟨b2, o2, rfl, hbl2, hcl⟩ := (hr2.ext (x1.trans hx)).at (by omega)
      have hck0 := hcl q hlq
      clear hcl
      have hqi : (q : Int) < m := by omega
      have hsplit := hlq
      go_wp2
      go_loopw [9, 10] (fun u i wi => ∃ k : Nat, k ≤ n1 ∧ i = .int .i64 k ∧ u = .int .i64 (bestM xs (nthS ls q) y k) ∧ Ext wr wi) (fun _ i _ => n1 - (intOf i).toNat)
      case atStart => exact ⟨0, Nat.zero_le _, rfl, rfl, Ext.refl _⟩
      case round =>
        obtain ⟨k, hk, rfl, rfl, hxi⟩ := hrel
        have hrg := bestM_range xs (nthS ls q) y k (by omega)
        have hxw := x1.trans (hx.trans hxi)
        have hck := (Below.cell hxi (p := ⟨b2, o2 + q, none⟩) hbl2).trans hck0
        by_cases hlt : k < n1
        · obtain ⟨b, o, rfl, hbl, hA⟩ := (hr.ext hxw).at (by omega)
          obtain ⟨b1, o1, rfl, hbl1, hU⟩ := (ho.rd.ext (hx.trans hxi)).at (by omega)
          have hcu := hU k hlt
          have hst := bestM_step (xs := xs) (l := nthS ls q) (y := y) (m := k) (by omega)
          obtain ⟨hu1, hu2⟩ := usedX_get (xs := xs) (y := y) (m := k) (by omega)
          rw [hu1] at hcu
          clear hu1 hU
          obtain ⟨p, hp⟩ : ∃ p, p = (usedX xs y)[k]'(by omega) := ⟨_, rfl⟩
          rw [← hp] at hst hcu hu2
          clear hp
          obtain ⟨_, g1, g2, _, _⟩ := hA p (by omega)
          have hp0 : (0 : Int) ≤ p := by omega
          have hpi : (p : Int) < n := by omega
          have hki : (k : Int) < n1 := by omega
          have HA := Lib.hid hA
          clear hA
          by_cases hl : (nthName xs p).lang = nthS ls q
          · have hbe := beqS_eq hl
            have HL := Lib.hid hl
            clear hl
            by_cases hneg : bestM xs (nthS ls q) y k < 0
            · have HS := Lib.hid (hst.trans (bestS_new HL.out hneg))
              clear hst
              go_wp2
              go_quiet (fail)
              go_wp2
              go_roundw
              case rel => exact ⟨k + 1, by omega, by go_num, by rw [HS.out], hxi.drewN _⟩
              case measure => simp [intOf]; omega
            · obtain ⟨bb, hbb⟩ := Int.eq_ofNat_of_zero_le (show 0 ≤ bestM xs (nthS ls q) y k by omega)
              rw [hbb] at hrg hneg hst ⊢
              have hbbn : bb < n := by omega
              obtain ⟨_, _, g3, _, _⟩ := HA.out bb hbbn
              have hbi : (bb : Int) < n := by omega
              have hb0 : (0 : Int) ≤ bb := by omega
              by_cases hlt2 : (nthName xs p).status < (nthName xs bb).status
              · have HS := Lib.hid (hst.trans (bestS_more HL.out hlt2))
                clear hst hbb
                go_wp2
                go_quiet (fail)
                go_wp2
                go_roundw
                case rel => exact ⟨k + 1, by omega, by go_num, by rw [HS.out], hxi.drewN _⟩
                case measure => simp [intOf]; omega
              · have HS := Lib.hid (hst.trans (bestS_less hlt2))
                clear hst hbb
                go_wp2
                go_quiet (fail)
                go_wp2
                go_roundw
                case rel => exact ⟨k + 1, by omega, by go_num, by rw [HS.out], hxi.drewN _⟩
                case measure => simp [intOf]; omega
          · have hbe := beqS_ne hl
            have HS := Lib.hid (hst.trans (bestS_lang hl))
            clear hl hst
            go_wp2
            go_quiet (fail)
            go_wp2
            go_roundw
            case rel => exact ⟨k + 1, by omega, by go_num, by rw [HS.out], hxi.drewN _⟩
            case measure => simp [intOf]; omega
        · obtain rfl : k = n1 := by omega
          have hall : bestM xs (nthS ls q) y k = bestA xs (nthS ls q) y := by rw [← hl1, bestM_all]
          by_cases h0 : 0 ≤ bestM xs (nthS ls q) y k
          · have H0 := Lib.hid hall
            clear hall
            go_wp2
            go_ret
            exact ⟨ret_int (by rw [H0.out, bestR_at (q := q) (by omega) (by rw [← H0.out]; exact h0) HQ.out]), hxw⟩
          · have H0 := Lib.hid hall
            clear hall
            go_wp2
            go_roundw
            case rel =>
              refine ⟨q + 1, by omega, by go_num, fun j hj => ?_, hx.trans hxi⟩
              by_cases e : j = q
              · subst e; rw [← H0.out]; omega
              · exact HQ.out j (by omega)
            case measure => simp [intOf]; omega
    · obtain rfl : q = m := by omega
      go_wp2
      go_ret
      exact ⟨ret_int (bestR_none (fun j hj => HQ.out j (by omega))).symm, x1.trans hx⟩

def bstC (xs : List NameV) (ls : List ByteArray) (y : Int) : Int := if codeN xs (langsB ls) y = 0 then (if bestR xs ls y < 0 then 4 else 0) else codeN xs (langsB ls) y
def bstV (xs : List NameV) (ls : List ByteArray) (y : Int) : Int := if codeN xs (langsB ls) y = 0 ∧ 0 ≤ bestR xs ls y then bestR xs ls y else 0
theorem bst_code {xs : List NameV} {ls : List ByteArray} {y : Int} (h : codeN xs (langsB ls) y ≠ 0) : bstV xs ls y = 0 ∧ bstC xs ls y = codeN xs (langsB ls) y := ⟨if_neg fun h2 => h h2.1, if_neg h⟩
theorem bst_none {xs : List NameV} {ls : List ByteArray} {y : Int} (h : codeN xs (langsB ls) y = 0) (h2 : bestR xs ls y < 0) : bstV xs ls y = 0 ∧ bstC xs ls y = 4 := ⟨if_neg fun h3 => by omega, by rw [bstC, if_pos h, if_pos h2]⟩
theorem bst_some {xs : List NameV} {ls : List ByteArray} {y : Int} (h : codeN xs (langsB ls) y = 0) (h2 : ¬ bestR xs ls y < 0) : bstV xs ls y = bestR xs ls y ∧ bstC xs ls y = 0 := ⟨if_pos ⟨h, by omega⟩, by rw [bstC, if_pos h, if_neg h2]⟩

theorem InS.ext {w w' : World} {a : Option Addr} {n : Nat} {ss : List ByteArray} (h : InS w a n ss) (x : Ext w w') : InS w' a n ss := ⟨h.1, h.2.1, h.2.2.1.ext x, h.2.2.2⟩

end Go.Proofs.YtjelmidkkpchkaaGreatDoor
end
