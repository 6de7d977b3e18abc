/-
  Parts of a phrase put together.
-/
import Derived.Test.YtfglmoedicijkaaDoorBL
import Derived.Test.YtfglmoedicijkaaDoorNParts
namespace Go.Proofs.YtfglmoedicijkaaDoor
open Go.RowKit

theorem box_keptG {w w1 : World} {cs : Array Value} {t : TypeId} (h : Ext (w.alloc (.cells cs t)) w1) (k : Nat) : w1.cell? ⟨w.heap.size, k, none⟩ = cs[k]? := by
  rw [Below.cell h (p := ⟨w.heap.size, k, none⟩) (by simp)]
  simp [World.cell?_alloc_at]
def together (p : PartsV) (first : Bool) : ByteArray := if p.gen = ⟨#[]⟩ then p.spec else if first = true then p.gen ++ blank ++ p.spec else p.spec ++ blank ++ p.gen

theorem isEmptyS_ne {s : ByteArray} (h : s ≠ ⟨#[]⟩) : s.toList.isEmpty = false := by
  cases hb : s.toList.isEmpty
  · rfl
  · refine absurd (eqS.1 ?_) h
    rw [ByteArray.toList_eq, List.isEmpty_iff] at hb
    exact hb
theorem together_ne (x0 : ByteArray) {x1 : ByteArray} (first : Bool) (h : x1 ≠ ⟨#[]⟩) : together ⟨x0, x1⟩ first = if first = true then x1 ++ blank ++ x0 else x0 ++ blank ++ x1 := by rw [together, if_neg h]
theorem together_size (x : PartsV) (first : Bool) (hx : okParts x) (h : x.spec.size + x.gen.size ≤ 1073741823) : (together x first).size ≤ 1073741824 := by
  obtain ⟨h0, h1⟩ := hx
  rw [together]
  split
  · exact h0
  · have : blank.size = 1 := rfl
    split <;> simp only [ByteArray.size_append] <;> omega

set_option maxRecDepth 100000 in
set_option maxHeartbeats 400000 in
theorem putTogether_any (x : PartsV) (first : Bool) (w : World) (hp : okParts x) :
    Calls Tryd.prog 67 #[valParts x, .bool first] w fun e w' => e = .returned (.string (together x first)) ∧ Ext w w' := by
  obtain ⟨x0, x1⟩ := x
  obtain ⟨hp0, hp1⟩ := hp
  simp only [valParts] at hp0 hp1 ⊢
  by_cases h : x1 = ⟨#[]⟩
  · subst h
    go_enter Tryd.func67, Tryd.ntmps67
    go_wp2
    go_ret
    exact ⟨rfl, by repeat (first | exact Ext.refl _ | apply Ext.alloc)⟩
  · have hb : x1.toList.isEmpty = false := isEmptyS_ne h
    have ht := together_ne x0 first h
    have HT := Lib.hid ht
    clear ht
    cases first
    all_goals
      go_enter Tryd.func67, Tryd.ntmps67
      go_wp2
      go_ret
      exact ⟨by rw [HT.out]; rfl, by repeat (first | exact Ext.refl _ | apply Ext.alloc)⟩

set_option maxRecDepth 100000 in
set_option maxHeartbeats 400000 in
theorem l08Together_any (x : PartsV) (first : Bool) (w : World) (hp : okParts x) :
    Calls Tryd.prog 69 #[valParts x, .bool first] w fun e w' => e = .returned (.string (together x first)) ∧ Ext w w' := by
  obtain ⟨x0, x1⟩ := x
  obtain ⟨hp0, hp1⟩ := hp
  simp only [valParts] at hp0 hp1 ⊢
  by_cases h : x1 = ⟨#[]⟩
  · subst h
    go_enter Tryd.func69, Tryd.ntmps69
    go_wp2
    go_ret
    exact ⟨rfl, by repeat (first | exact Ext.refl _ | apply Ext.alloc)⟩
  · have hb : x1.toList.isEmpty = false := isEmptyS_ne h
    have ht := together_ne x0 first h
    have HT := Lib.hid ht
    clear ht
    cases first
    all_goals
      go_enter Tryd.func69, Tryd.ntmps69
      go_wp2
      go_ret
      exact ⟨by rw [HT.out]; rfl, by repeat (first | exact Ext.refl _ | apply Ext.alloc)⟩

/-- Parts as a phrase asks for them. -/
def partsB (x : PartsV) : Bool := phraseB x.spec && (decide (x.gen = ⟨#[]⟩) || wordB x.gen)
def togetherB (x : PartsV) (first : Bool) : Bool := partsB x && phraseB (together x first)
def togetherS (x : PartsV) (first : Bool) : ByteArray := if togetherB x first = true then together x first else ⟨#[]⟩
def togetherC (x : PartsV) (first : Bool) : Int := if togetherB x first = true then 0 else 1
def RetSC (w : World) (s : ByteArray) (code : Int) (e : Ending) (w' : World) : Prop := e = .returned (.tuple #[.string s, .int .i64 code]) ∧ Ext w w'
theorem together_bad {x : PartsV} {first : Bool} (h : togetherB x first = false) : togetherS x first = ⟨#[]⟩ ∧ togetherC x first = 1 := by simp [togetherS, togetherC, h]
theorem together_good {x : PartsV} {first : Bool} (h : togetherB x first = true) : togetherS x first = together x first ∧ togetherC x first = 0 := by simp [togetherS, togetherC, h]

set_option maxRecDepth 100000 in
set_option maxHeartbeats 1000000 in
theorem specPutTogether_any (x : PartsV) (first : Bool) (w : World) (hp : okParts x) (hs : x.spec.size + x.gen.size ≤ 1073741823) :
    Calls Tryd.prog 32 #[valParts x, .bool first] w (RetSC w (togetherS x first) (togetherC x first)) := by
  have hsz := together_size x first hp hs
  obtain ⟨x0, x1⟩ := x
  obtain ⟨hp0, hp1⟩ := hp
  simp only [valParts] at hp0 hp1 hsz ⊢
  have HS := hsz
  clear hsz
  cases hph : phraseB x0
  · have hr := together_bad (x := ⟨x0, x1⟩) (first := first) (by simp [togetherB, partsB, hph])
    have HR := Lib.hid hr
    have HP := Lib.hid hph
    clear hr hph
    go_enter Tryd.func32, Tryd.ntmps32
    go_wp2_with fail
    refine (specIsPhrase_any x0 _ (by omega)).mono ?_
    rintro e w1 ⟨rfl, e1⟩
    rw [HP.out]
    have bx1 : _ = some (Value.string x0) := box_keptG e1 0
    have by1 : _ = some (Value.string x1) := box_keptG e1 1
    go_wp2
    go_ret2
    exact ⟨by rw [HR.out.1, HR.out.2]; rfl, (((Ext.refl _).alloc _).trans e1)⟩
  · by_cases he : x1 = ⟨#[]⟩
    · subst he
      cases ht : phraseB (together ⟨x0, ⟨#[]⟩⟩ first)
      · have hr := together_bad (x := ⟨x0, ⟨#[]⟩⟩) (first := first) (by simp [togetherB, ht])
        have HR := Lib.hid hr
        have HP := Lib.hid hph
        have HT := Lib.hid ht
        clear hr hph ht
        go_enter Tryd.func32, Tryd.ntmps32
        go_wp2_with fail
        refine (specIsPhrase_any x0 _ (by omega)).mono ?_
        rintro e w1 ⟨rfl, e1⟩
        rw [HP.out]
        have bx1 : _ = some (Value.string x0) := box_keptG e1 0
        have by1 : _ = some (Value.string ⟨#[]⟩) := box_keptG e1 1
        go_wp2_with fail
        refine (l08Together_any ⟨x0, ⟨#[]⟩⟩ first _ ⟨hp0, hp1⟩).mono ?_
        rintro e w2 ⟨rfl, e2⟩
        have bx2 : _ = some (Value.string x0) := box_keptG (e1.trans e2) 0
        have by2 : _ = some (Value.string ⟨#[]⟩) := box_keptG (e1.trans e2) 1
        go_wp2_with fail
        refine (specIsPhrase_any (together ⟨x0, ⟨#[]⟩⟩ first) _ HS).mono ?_
        rintro e w3 ⟨rfl, e3⟩
        rw [HT.out]
        have bx3 : _ = some (Value.string x0) := box_keptG ((e1.trans e2).trans e3) 0
        have by3 : _ = some (Value.string ⟨#[]⟩) := box_keptG ((e1.trans e2).trans e3) 1
        go_wp2
        go_ret2
        exact ⟨by rw [HR.out.1, HR.out.2]; rfl, (((((Ext.refl _).alloc _).trans e1).trans e2).trans e3)⟩
      · have hr := together_good (x := ⟨x0, ⟨#[]⟩⟩) (first := first) (by simp [togetherB, partsB, ht, hph])
        have HR := Lib.hid hr
        have HP := Lib.hid hph
        have HT := Lib.hid ht
        clear hr hph ht
        go_enter Tryd.func32, Tryd.ntmps32
        go_wp2_with fail
        refine (specIsPhrase_any x0 _ (by omega)).mono ?_
        rintro e w1 ⟨rfl, e1⟩
        rw [HP.out]
        have bx1 : _ = some (Value.string x0) := box_keptG e1 0
        have by1 : _ = some (Value.string ⟨#[]⟩) := box_keptG e1 1
        go_wp2_with fail
        refine (l08Together_any ⟨x0, ⟨#[]⟩⟩ first _ ⟨hp0, hp1⟩).mono ?_
        rintro e w2 ⟨rfl, e2⟩
        have bx2 : _ = some (Value.string x0) := box_keptG (e1.trans e2) 0
        have by2 : _ = some (Value.string ⟨#[]⟩) := box_keptG (e1.trans e2) 1
        go_wp2_with fail
        refine (specIsPhrase_any (together ⟨x0, ⟨#[]⟩⟩ first) _ HS).mono ?_
        rintro e w3 ⟨rfl, e3⟩
        rw [HT.out]
        have bx3 : _ = some (Value.string x0) := box_keptG ((e1.trans e2).trans e3) 0
        have by3 : _ = some (Value.string ⟨#[]⟩) := box_keptG ((e1.trans e2).trans e3) 1
        go_wp2
        go_ret2
        exact ⟨by rw [HR.out.1, HR.out.2]; rfl, (((((Ext.refl _).alloc _).trans e1).trans e2).trans e3)⟩
    · have hb : x1.toList.isEmpty = false := isEmptyS_ne he
      cases hw : wordB x1
      · have hr := together_bad (x := ⟨x0, x1⟩) (first := first) (by simp [togetherB, partsB, hw, he])
        have HR := Lib.hid hr
        have HP := Lib.hid hph
        have HW := Lib.hid hw
        clear hr hph hw
        go_enter Tryd.func32, Tryd.ntmps32
        go_wp2_with fail
        refine (specIsPhrase_any x0 _ (by omega)).mono ?_
        rintro e w1 ⟨rfl, e1⟩
        rw [HP.out]
        have bx1 : _ = some (Value.string x0) := box_keptG e1 0
        have by1 : _ = some (Value.string x1) := box_keptG e1 1
        go_wp2_with fail
        refine (specIsWord_any x1 _ (by omega)).mono ?_
        rintro e w2 ⟨rfl, rfl⟩
        rw [HW.out]
        go_wp2
        go_ret2
        exact ⟨by rw [HR.out.1, HR.out.2]; rfl, (((Ext.refl _).alloc _).trans e1)⟩
      · cases ht : phraseB (together ⟨x0, x1⟩ first)
        · have hr := together_bad (x := ⟨x0, x1⟩) (first := first) (by simp [togetherB, ht])
          have HR := Lib.hid hr
          have HP := Lib.hid hph
          have HW := Lib.hid hw
          have HT := Lib.hid ht
          clear hr hph hw ht
          go_enter Tryd.func32, Tryd.ntmps32
          go_wp2_with fail
          refine (specIsPhrase_any x0 _ (by omega)).mono ?_
          rintro e w1 ⟨rfl, e1⟩
          rw [HP.out]
          have bx1 : _ = some (Value.string x0) := box_keptG e1 0
          have by1 : _ = some (Value.string x1) := box_keptG e1 1
          go_wp2_with fail
          refine (specIsWord_any x1 _ (by omega)).mono ?_
          rintro e w2 ⟨rfl, rfl⟩
          rw [HW.out]
          go_wp2_with fail
          refine (l08Together_any ⟨x0, x1⟩ first _ ⟨hp0, hp1⟩).mono ?_
          rintro e w3 ⟨rfl, e3⟩
          have bx3 : _ = some (Value.string x0) := box_keptG (e1.trans e3) 0
          have by3 : _ = some (Value.string x1) := box_keptG (e1.trans e3) 1
          go_wp2_with fail
          refine (specIsPhrase_any (together ⟨x0, x1⟩ first) _ HS).mono ?_
          rintro e w4 ⟨rfl, e4⟩
          rw [HT.out]
          have bx4 : _ = some (Value.string x0) := box_keptG ((e1.trans e3).trans e4) 0
          have by4 : _ = some (Value.string x1) := box_keptG ((e1.trans e3).trans e4) 1
          go_wp2
          go_ret2
          exact ⟨by rw [HR.out.1, HR.out.2]; rfl, (((((Ext.refl _).alloc _).trans e1).trans e3).trans e4)⟩
        · have hr := together_good (x := ⟨x0, x1⟩) (first := first) (by simp [togetherB, partsB, ht, hph, hw])
          have HR := Lib.hid hr
          have HP := Lib.hid hph
          have HW := Lib.hid hw
          have HT := Lib.hid ht
          clear hr hph hw ht
          go_enter Tryd.func32, Tryd.ntmps32
          go_wp2_with fail
          refine (specIsPhrase_any x0 _ (by omega)).mono ?_
          rintro e w1 ⟨rfl, e1⟩
          rw [HP.out]
          have bx1 : _ = some (Value.string x0) := box_keptG e1 0
          have by1 : _ = some (Value.string x1) := box_keptG e1 1
          go_wp2_with fail
          refine (specIsWord_any x1 _ (by omega)).mono ?_
          rintro e w2 ⟨rfl, rfl⟩
          rw [HW.out]
          go_wp2_with fail
          refine (l08Together_any ⟨x0, x1⟩ first _ ⟨hp0, hp1⟩).mono ?_
          rintro e w3 ⟨rfl, e3⟩
          have bx3 : _ = some (Value.string x0) := box_keptG (e1.trans e3) 0
          have by3 : _ = some (Value.string x1) := box_keptG (e1.trans e3) 1
          go_wp2_with fail
          refine (specIsPhrase_any (together ⟨x0, x1⟩ first) _ HS).mono ?_
          rintro e w4 ⟨rfl, e4⟩
          rw [HT.out]
          have bx4 : _ = some (Value.string x0) := box_keptG ((e1.trans e3).trans e4) 0
          have by4 : _ = some (Value.string x1) := box_keptG ((e1.trans e3).trans e4) 1
          go_wp2
          go_ret2
          exact ⟨by rw [HR.out.1, HR.out.2]; rfl, (((((Ext.refl _).alloc _).trans e1).trans e3).trans e4)⟩

set_option maxRecDepth 100000 in
set_option maxHeartbeats 1000000 in
theorem implPutTogether_any (x : PartsV) (first : Bool) (w : World) (hp : okParts x) (hs : x.spec.size + x.gen.size ≤ 1073741823) (hmax : MaxW w) :
    Calls Tryd.prog 31 #[valParts x, .bool first] w (RetSC w (togetherS x first) (togetherC x first)) := by
  have hsz := together_size x first hp hs
  obtain ⟨x0, x1⟩ := x
  obtain ⟨hp0, hp1⟩ := hp
  simp only [valParts] at hp0 hp1 hsz ⊢
  have HS := hsz
  clear hsz
  cases hph : phraseB x0
  · have hr := together_bad (x := ⟨x0, x1⟩) (first := first) (by simp [togetherB, partsB, hph])
    have HR := Lib.hid hr
    have HP := Lib.hid hph
    clear hr hph
    go_enter Tryd.func31, Tryd.ntmps31
    go_wp2_with fail
    refine (putTogether_any ⟨x0, x1⟩ first _ ⟨hp0, hp1⟩).mono ?_
    rintro e w1 ⟨rfl, e1⟩
    have bx1 : _ = some (Value.string x0) := box_keptG e1 0
    have by1 : _ = some (Value.string x1) := box_keptG e1 1
    go_wp2_with fail
    refine (implIsPhrase_any x0 _ (by omega) (hmax.ext (((Ext.refl _).alloc _).trans e1))).mono ?_
    rintro e w2 ⟨rfl, e2⟩
    rw [HP.out]
    have bx2 : _ = some (Value.string x0) := box_keptG (e1.trans e2) 0
    have by2 : _ = some (Value.string x1) := box_keptG (e1.trans e2) 1
    go_wp2
    go_ret2
    exact ⟨by rw [HR.out.1, HR.out.2]; rfl, ((((Ext.refl _).alloc _).trans e1).trans e2)⟩
  · by_cases he : x1 = ⟨#[]⟩
    · subst he
      cases ht : phraseB (together ⟨x0, ⟨#[]⟩⟩ first)
      · have hr := together_bad (x := ⟨x0, ⟨#[]⟩⟩) (first := first) (by simp [togetherB, ht])
        have HR := Lib.hid hr
        have HP := Lib.hid hph
        have HT := Lib.hid ht
        clear hr hph ht
        go_enter Tryd.func31, Tryd.ntmps31
        go_wp2_with fail
        refine (putTogether_any ⟨x0, ⟨#[]⟩⟩ first _ ⟨hp0, hp1⟩).mono ?_
        rintro e w1 ⟨rfl, e1⟩
        have bx1 : _ = some (Value.string x0) := box_keptG e1 0
        have by1 : _ = some (Value.string ⟨#[]⟩) := box_keptG e1 1
        go_wp2_with fail
        refine (implIsPhrase_any x0 _ (by omega) (hmax.ext (((Ext.refl _).alloc _).trans e1))).mono ?_
        rintro e w2 ⟨rfl, e2⟩
        rw [HP.out]
        have bx2 : _ = some (Value.string x0) := box_keptG (e1.trans e2) 0
        have by2 : _ = some (Value.string ⟨#[]⟩) := box_keptG (e1.trans e2) 1
        go_wp2_with fail
        refine (implIsPhrase_any (together ⟨x0, ⟨#[]⟩⟩ first) _ HS (hmax.ext ((((Ext.refl _).alloc _).trans e1).trans e2))).mono ?_
        rintro e w3 ⟨rfl, e3⟩
        rw [HT.out]
        have bx3 : _ = some (Value.string x0) := box_keptG ((e1.trans e2).trans e3) 0
        have by3 : _ = some (Value.string ⟨#[]⟩) := box_keptG ((e1.trans e2).trans e3) 1
        go_wp2
        go_ret2
        exact ⟨by rw [HR.out.1, HR.out.2]; rfl, (((((Ext.refl _).alloc _).trans e1).trans e2).trans e3)⟩
      · have hr := together_good (x := ⟨x0, ⟨#[]⟩⟩) (first := first) (by simp [togetherB, partsB, ht, hph])
        have HR := Lib.hid hr
        have HP := Lib.hid hph
        have HT := Lib.hid ht
        clear hr hph ht
        go_enter Tryd.func31, Tryd.ntmps31
        go_wp2_with fail
        refine (putTogether_any ⟨x0, ⟨#[]⟩⟩ first _ ⟨hp0, hp1⟩).mono ?_
        rintro e w1 ⟨rfl, e1⟩
        have bx1 : _ = some (Value.string x0) := box_keptG e1 0
        have by1 : _ = some (Value.string ⟨#[]⟩) := box_keptG e1 1
        go_wp2_with fail
        refine (implIsPhrase_any x0 _ (by omega) (hmax.ext (((Ext.refl _).alloc _).trans e1))).mono ?_
        rintro e w2 ⟨rfl, e2⟩
        rw [HP.out]
        have bx2 : _ = some (Value.string x0) := box_keptG (e1.trans e2) 0
        have by2 : _ = some (Value.string ⟨#[]⟩) := box_keptG (e1.trans e2) 1
        go_wp2_with fail
        refine (implIsPhrase_any (together ⟨x0, ⟨#[]⟩⟩ first) _ HS (hmax.ext ((((Ext.refl _).alloc _).trans e1).trans e2))).mono ?_
        rintro e w3 ⟨rfl, e3⟩
        rw [HT.out]
        have bx3 : _ = some (Value.string x0) := box_keptG ((e1.trans e2).trans e3) 0
        have by3 : _ = some (Value.string ⟨#[]⟩) := box_keptG ((e1.trans e2).trans e3) 1
        go_wp2
        go_ret2
        exact ⟨by rw [HR.out.1, HR.out.2]; rfl, (((((Ext.refl _).alloc _).trans e1).trans e2).trans e3)⟩
    · have hb : x1.toList.isEmpty = false := isEmptyS_ne he
      cases hw : wordB x1
      · have hr := together_bad (x := ⟨x0, x1⟩) (first := first) (by simp [togetherB, partsB, hw, he])
        have HR := Lib.hid hr
        have HP := Lib.hid hph
        have HW := Lib.hid hw
        clear hr hph hw
        go_enter Tryd.func31, Tryd.ntmps31
        go_wp2_with fail
        refine (putTogether_any ⟨x0, x1⟩ first _ ⟨hp0, hp1⟩).mono ?_
        rintro e w1 ⟨rfl, e1⟩
        have bx1 : _ = some (Value.string x0) := box_keptG e1 0
        have by1 : _ = some (Value.string x1) := box_keptG e1 1
        go_wp2_with fail
        refine (implIsPhrase_any x0 _ (by omega) (hmax.ext (((Ext.refl _).alloc _).trans e1))).mono ?_
        rintro e w2 ⟨rfl, e2⟩
        rw [HP.out]
        have bx2 : _ = some (Value.string x0) := box_keptG (e1.trans e2) 0
        have by2 : _ = some (Value.string x1) := box_keptG (e1.trans e2) 1
        go_wp2_with fail
        refine (implIsWord_any x1 _ (by omega)).mono ?_
        rintro e w3 ⟨rfl, e3⟩
        rw [HW.out]
        have bx3 : _ = some (Value.string x0) := box_keptG ((e1.trans e2).trans e3) 0
        have by3 : _ = some (Value.string x1) := box_keptG ((e1.trans e2).trans e3) 1
        go_wp2
        go_ret2
        exact ⟨by rw [HR.out.1, HR.out.2]; rfl, (((((Ext.refl _).alloc _).trans e1).trans e2).trans e3)⟩
      · cases ht : phraseB (together ⟨x0, x1⟩ first)
        · have hr := together_bad (x := ⟨x0, x1⟩) (first := first) (by simp [togetherB, ht])
          have HR := Lib.hid hr
          have HP := Lib.hid hph
          have HW := Lib.hid hw
          have HT := Lib.hid ht
          clear hr hph hw ht
          go_enter Tryd.func31, Tryd.ntmps31
          go_wp2_with fail
          refine (putTogether_any ⟨x0, x1⟩ first _ ⟨hp0, hp1⟩).mono ?_
          rintro e w1 ⟨rfl, e1⟩
          have bx1 : _ = some (Value.string x0) := box_keptG e1 0
          have by1 : _ = some (Value.string x1) := box_keptG e1 1
          go_wp2_with fail
          refine (implIsPhrase_any x0 _ (by omega) (hmax.ext (((Ext.refl _).alloc _).trans e1))).mono ?_
          rintro e w2 ⟨rfl, e2⟩
          rw [HP.out]
          have bx2 : _ = some (Value.string x0) := box_keptG (e1.trans e2) 0
          have by2 : _ = some (Value.string x1) := box_keptG (e1.trans e2) 1
          go_wp2_with fail
          refine (implIsWord_any x1 _ (by omega)).mono ?_
          rintro e w3 ⟨rfl, e3⟩
          rw [HW.out]
          have bx3 : _ = some (Value.string x0) := box_keptG ((e1.trans e2).trans e3) 0
          have by3 : _ = some (Value.string x1) := box_keptG ((e1.trans e2).trans e3) 1
          go_wp2_with fail
          refine (implIsPhrase_any (together ⟨x0, x1⟩ first) _ HS (hmax.ext (((((Ext.refl _).alloc _).trans e1).trans e2).trans e3))).mono ?_
          rintro e w4 ⟨rfl, e4⟩
          rw [HT.out]
          have bx4 : _ = some (Value.string x0) := box_keptG (((e1.trans e2).trans e3).trans e4) 0
          have by4 : _ = some (Value.string x1) := box_keptG (((e1.trans e2).trans e3).trans e4) 1
          go_wp2
          go_ret2
          exact ⟨by rw [HR.out.1, HR.out.2]; rfl, ((((((Ext.refl _).alloc _).trans e1).trans e2).trans e3).trans e4)⟩
        · have hr := together_good (x := ⟨x0, x1⟩) (first := first) (by simp [togetherB, partsB, ht, hph, hw])
          have HR := Lib.hid hr
          have HP := Lib.hid hph
          have HW := Lib.hid hw
          have HT := Lib.hid ht
          clear hr hph hw ht
          go_enter Tryd.func31, Tryd.ntmps31
          go_wp2_with fail
          refine (putTogether_any ⟨x0, x1⟩ first _ ⟨hp0, hp1⟩).mono ?_
          rintro e w1 ⟨rfl, e1⟩
          have bx1 : _ = some (Value.string x0) := box_keptG e1 0
          have by1 : _ = some (Value.string x1) := box_keptG e1 1
          go_wp2_with fail
          refine (implIsPhrase_any x0 _ (by omega) (hmax.ext (((Ext.refl _).alloc _).trans e1))).mono ?_
          rintro e w2 ⟨rfl, e2⟩
          rw [HP.out]
          have bx2 : _ = some (Value.string x0) := box_keptG (e1.trans e2) 0
          have by2 : _ = some (Value.string x1) := box_keptG (e1.trans e2) 1
          go_wp2_with fail
          refine (implIsWord_any x1 _ (by omega)).mono ?_
          rintro e w3 ⟨rfl, e3⟩
          rw [HW.out]
          have bx3 : _ = some (Value.string x0) := box_keptG ((e1.trans e2).trans e3) 0
          have by3 : _ = some (Value.string x1) := box_keptG ((e1.trans e2).trans e3) 1
          go_wp2_with fail
          refine (implIsPhrase_any (together ⟨x0, x1⟩ first) _ HS (hmax.ext (((((Ext.refl _).alloc _).trans e1).trans e2).trans e3))).mono ?_
          rintro e w4 ⟨rfl, e4⟩
          rw [HT.out]
          have bx4 : _ = some (Value.string x0) := box_keptG (((e1.trans e2).trans e3).trans e4) 0
          have by4 : _ = some (Value.string x1) := box_keptG (((e1.trans e2).trans e3).trans e4) 1
          go_wp2
          go_ret2
          exact ⟨by rw [HR.out.1, HR.out.2]; rfl, ((((((Ext.refl _).alloc _).trans e1).trans e2).trans e3).trans e4)⟩

end Go.Proofs.YtfglmoedicijkaaDoor
