/-
  The two TakeApart.
-/
import Derived.Test.YtfglmoedicijkaaDoorTA2
namespace Go.Proofs.YtfglmoedicijkaaDoor
open Go.RowKit

def takeB (gs : List ByteArray) (s : ByteArray) : Bool := genericsB gs && phraseB s
def takeP (gs : List ByteArray) (s : ByteArray) : PartsV := if takeB gs s = true then apartP gs s else ⟨⟨#[]⟩, ⟨#[]⟩⟩
def takeC (gs : List ByteArray) (s : ByteArray) : Int := if takeB gs s = true then 0 else 1
theorem take_bad {gs : List ByteArray} {s : ByteArray} (h : takeB gs s = false) : takeP gs s = ⟨⟨#[]⟩, ⟨#[]⟩⟩ ∧ takeC gs s = 1 := by simp [takeP, takeC, h]
theorem take_good {gs : List ByteArray} {s : ByteArray} (h : takeB gs s = true) : takeP gs s = apartP gs s ∧ takeC gs s = 0 := by simp [takeP, takeC, h]
def RetPC (w : World) (p : PartsV) (code : Int) (e : Ending) (w' : World) : Prop := e = .returned (.tuple #[valParts p, .int .i64 code]) ∧ Ext w w'

set_option maxRecDepth 100000 in
set_option maxHeartbeats 1000000 in
theorem specTakeApart_any (a : Option Addr) (n c : Nat) (s : ByteArray) (gs : List ByteArray) (w : World) (hr : RdS w a n gs) (hs : s.size ≤ 1073741824) :
    Calls Tryd.prog 29 #[.slice a n c, .string s] w (RetPC w (takeP gs s) (takeC gs s)) := by
  cases hg : genericsB gs
  · have HR := Lib.hid (take_bad (gs := gs) (s := s) (by rw [takeB, hg]; rfl))
    have HG := Lib.hid hg
    clear hg
    go_enter Tryd.func29, Tryd.ntmps29
    go_wp2_with fail
    refine (specAreGenerics_any _ _ _ _ _ (hr.ext ((Ext.refl _).alloc _))).mono ?_
    rintro e w1 ⟨rfl, rfl⟩
    rw [HG.out]
    go_wp2
    exact bodyPost_ret (v := .tuple #[.agg #[.string ⟨#[]⟩, .string ⟨#[]⟩], .int .i64 1]) (by simp [results, Tryd.results29, go_sem]) rfl ⟨by rw [HR.out.1, HR.out.2]; rfl, by repeat (first | exact ((Ext.refl _).alloc _) | exact Ext.refl _ | apply Ext.alloc | refine Ext.setCell ?_ (Nat.le_refl _) _)⟩
  · cases hp : phraseB s
    · have HR := Lib.hid (take_bad (gs := gs) (s := s) (by rw [takeB, hg, hp]; rfl))
      have HG := Lib.hid hg
      have HP := Lib.hid hp
      clear hg hp
      go_enter Tryd.func29, Tryd.ntmps29
      go_wp2_with fail
      refine (specAreGenerics_any _ _ _ _ _ (hr.ext ((Ext.refl _).alloc _))).mono ?_
      rintro e w1 ⟨rfl, rfl⟩
      rw [HG.out]
      go_wp2_with fail
      refine (specIsPhrase_any _ _ hs).mono ?_
      rintro e w2 ⟨rfl, e2⟩
      rw [HP.out]
      have b0 : _ = some (Value.string ⟨#[]⟩) := box_keptG e2 0
      have b1 : _ = some (Value.string ⟨#[]⟩) := box_keptG e2 1
      have f0 := box_frozen e2 0
      have f1 := box_frozen e2 1
      go_wp2
      exact bodyPost_ret (v := .tuple #[.agg #[.string ⟨#[]⟩, .string ⟨#[]⟩], .int .i64 1]) (by simp [results, Tryd.results29, go_sem, b0, b1]) rfl ⟨by rw [HR.out.1, HR.out.2]; rfl, by repeat (first | exact (((Ext.refl _).alloc _).trans e2) | exact Ext.refl _ | apply Ext.alloc | refine Ext.setCell ?_ (Nat.le_refl _) _)⟩
    · have HR := Lib.hid (take_good (gs := gs) (s := s) (by rw [takeB, hg, hp]; rfl))
      have HG := Lib.hid hg
      have HP := Lib.hid hp
      clear hg hp
      go_enter Tryd.func29, Tryd.ntmps29
      go_wp2_with fail
      refine (specAreGenerics_any _ _ _ _ _ (hr.ext ((Ext.refl _).alloc _))).mono ?_
      rintro e w1 ⟨rfl, rfl⟩
      rw [HG.out]
      go_wp2_with fail
      refine (specIsPhrase_any _ _ hs).mono ?_
      rintro e w2 ⟨rfl, e2⟩
      rw [HP.out]
      go_wp2_with fail
      refine (l08Apart_any _ _ _ _ _ _ (hr.ext (((Ext.refl _).alloc _).trans e2)) HP.out hs).mono ?_
      rintro e w3 ⟨rfl, e3⟩
      rw [valParts]
      have b0 : _ = some (Value.string ⟨#[]⟩) := box_keptG (e2.trans e3) 0
      have b1 : _ = some (Value.string ⟨#[]⟩) := box_keptG (e2.trans e3) 1
      have f0 := box_frozen (e2.trans e3) 0
      have f1 := box_frozen (e2.trans e3) 1
      have hl3 : w.heap.size < w3.heap.size := by have := ((e2.trans e3)).size; simp at this; omega
      have hn3 : w.heap.size ≠ w3.heap.size := by omega
      go_wp2
      exact bodyPost_ret (v := .tuple #[.agg #[.string (apartP gs s).spec, .string (apartP gs s).gen], .int .i64 0]) (by simp [results, Tryd.results29, go_sem, b0, b1, hl3, World.cell?_alloc_past]) rfl ⟨by rw [HR.out.1, HR.out.2]; rfl, by repeat (first | exact ((((Ext.refl _).alloc _).trans e2).trans e3) | exact Ext.refl _ | apply Ext.alloc | refine Ext.setCell ?_ (Nat.le_refl _) _)⟩

set_option maxRecDepth 100000 in
set_option maxHeartbeats 1000000 in
theorem implTakeApart_any (a : Option Addr) (n c : Nat) (s : ByteArray) (gs : List ByteArray) (w : World) (hr : RdS w a n gs) (hcap : n ≤ c) (hs : s.size ≤ 1073741824) (hmax : MaxW w) :
    Calls Tryd.prog 28 #[.slice a n c, .string s] w (RetPC w (takeP gs s) (takeC gs s)) := by
  cases hg : genericsB gs
  · have HR := Lib.hid (take_bad (gs := gs) (s := s) (by rw [takeB, hg]; rfl))
    have HG := Lib.hid hg
    clear hg
    go_enter Tryd.func28, Tryd.ntmps28
    go_wp2_with fail
    refine (implAreGenerics_any _ _ _ _ _ (hr.ext ((Ext.refl _).alloc _)) hcap).mono ?_
    rintro e w1 ⟨rfl, e1⟩
    rw [HG.out]
    have b0 : _ = some (Value.string ⟨#[]⟩) := box_keptG e1 0
    have b1 : _ = some (Value.string ⟨#[]⟩) := box_keptG e1 1
    have f0 := box_frozen e1 0
    have f1 := box_frozen e1 1
    go_wp2
    exact bodyPost_ret (v := .tuple #[.agg #[.string ⟨#[]⟩, .string ⟨#[]⟩], .int .i64 1]) (by simp [results, Tryd.results28, go_sem, b0, b1]) rfl ⟨by rw [HR.out.1, HR.out.2]; rfl, by repeat (first | exact (((Ext.refl _).alloc _).trans e1) | exact Ext.refl _ | apply Ext.alloc | refine Ext.setCell ?_ (Nat.le_refl _) _)⟩
  · cases hp : phraseB s
    · have HR := Lib.hid (take_bad (gs := gs) (s := s) (by rw [takeB, hg, hp]; rfl))
      have HG := Lib.hid hg
      have HP := Lib.hid hp
      clear hg hp
      go_enter Tryd.func28, Tryd.ntmps28
      go_wp2_with fail
      refine (implAreGenerics_any _ _ _ _ _ (hr.ext ((Ext.refl _).alloc _)) hcap).mono ?_
      rintro e w1 ⟨rfl, e1⟩
      rw [HG.out]
      go_wp2_with fail
      refine (implIsPhrase_any _ _ hs (hmax.ext (((Ext.refl _).alloc _).trans e1))).mono ?_
      rintro e w2 ⟨rfl, e2⟩
      rw [HP.out]
      have b0 : _ = some (Value.string ⟨#[]⟩) := box_keptG (e1.trans e2) 0
      have b1 : _ = some (Value.string ⟨#[]⟩) := box_keptG (e1.trans e2) 1
      have f0 := box_frozen (e1.trans e2) 0
      have f1 := box_frozen (e1.trans e2) 1
      go_wp2
      exact bodyPost_ret (v := .tuple #[.agg #[.string ⟨#[]⟩, .string ⟨#[]⟩], .int .i64 1]) (by simp [results, Tryd.results28, go_sem, b0, b1]) rfl ⟨by rw [HR.out.1, HR.out.2]; rfl, by repeat (first | exact ((((Ext.refl _).alloc _).trans e1).trans e2) | exact Ext.refl _ | apply Ext.alloc | refine Ext.setCell ?_ (Nat.le_refl _) _)⟩
    · have HR := Lib.hid (take_good (gs := gs) (s := s) (by rw [takeB, hg, hp]; rfl))
      have HG := Lib.hid hg
      have HP := Lib.hid hp
      clear hg hp
      go_enter Tryd.func28, Tryd.ntmps28
      go_wp2_with fail
      refine (implAreGenerics_any _ _ _ _ _ (hr.ext ((Ext.refl _).alloc _)) hcap).mono ?_
      rintro e w1 ⟨rfl, e1⟩
      rw [HG.out]
      go_wp2_with fail
      refine (implIsPhrase_any _ _ hs (hmax.ext (((Ext.refl _).alloc _).trans e1))).mono ?_
      rintro e w2 ⟨rfl, e2⟩
      rw [HP.out]
      go_wp2_with fail
      refine (takeApart_any _ _ _ _ _ _ (hr.ext ((((Ext.refl _).alloc _).trans e1).trans e2)) HP.out hs (hmax.ext ((((Ext.refl _).alloc _).trans e1).trans e2))).mono ?_
      rintro e w3 ⟨rfl, e3⟩
      rw [valParts]
      have b0 : _ = some (Value.string ⟨#[]⟩) := box_keptG ((e1.trans e2).trans e3) 0
      have b1 : _ = some (Value.string ⟨#[]⟩) := box_keptG ((e1.trans e2).trans e3) 1
      have f0 := box_frozen ((e1.trans e2).trans e3) 0
      have f1 := box_frozen ((e1.trans e2).trans e3) 1
      have hl3 : w.heap.size < w3.heap.size := by have := (((e1.trans e2).trans e3)).size; simp at this; omega
      have hn3 : w.heap.size ≠ w3.heap.size := by omega
      go_wp2
      exact bodyPost_ret (v := .tuple #[.agg #[.string (apartP gs s).spec, .string (apartP gs s).gen], .int .i64 0]) (by simp [results, Tryd.results28, go_sem, b0, b1, hl3, World.cell?_alloc_past]) rfl ⟨by rw [HR.out.1, HR.out.2]; rfl, by repeat (first | exact (((((Ext.refl _).alloc _).trans e1).trans e2).trans e3) | exact Ext.refl _ | apply Ext.alloc | refine Ext.setCell ?_ (Nat.le_refl _) _)⟩

end Go.Proofs.YtfglmoedicijkaaDoor
