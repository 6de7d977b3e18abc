/-
  The reference's draws of FnNames.
-/
import Derived.Test.YteencdgaldhanaaGreatDoorDL2
import Derived.Test.YteencdgaldhanaaGreatDoorDL3
import Derived.Test.YteencdgaldhanaaGreatDoorDN3
namespace Go.Proofs.YteencdgaldhanaaGreatDoor
open Go.RowKit

/-- What specAreNames_any says, as the draws want it. -/
def ANs : Prop := ∀ (a : Option Addr) (n c : Nat) (xs : List NameV) (w : World), RdName w a n xs → Calls Tryz.prog 71 #[.slice a n c] w fun e w' => ∃ b, e = .returned (.bool b) ∧ Ext w w'
/-- A list of names that a draw hands out. -/
def NewN (w w' : World) (a : Option Addr) (c : Nat) (xs : List NameV) : Prop := xs.length ≤ 13 ∧ shortN xs ∧ OwnName w' w.heap.size a xs.length c xs ∧ Ext w w'
theorem shortN.ok {xs : List NameV} (h : shortN xs) : ∀ x ∈ xs, okName x := fun x hx => by have := h x hx; exact ⟨by omega, by omega⟩
/-- A slice that the call owns is not the source of another draw. -/
theorem OwnG.off {α : Type} {L : Lay α} {e : TypeId} {w : World} {B g n c : Nat} {a : Option Addr} {xs : List α} (h : OwnG L e w B a n c xs) (hg : g < B) : ∀ ad, a = some ad → ad.block ≠ g := by
  rintro ad rfl
  rcases own_addr h.1 with e | ⟨k, e⟩
  · cases e
  · have := (h.1.lt k (by rw [e]; rfl)).1
    cases e
    simp only
    omega

set_option maxRecDepth 100000 in
set_option maxHeartbeats 1000000 in
theorem drawUsedIn_any (hAN : ANs) (a : Option Addr) (n c : Nat) (bs : List Int) (w : World) (hr : RdBy w a n bs) :
    Calls Tryz.prog 19 #[.slice a n c] w fun e w' => ∃ (a1 : Option Addr) (c1 : Nat) (xs : List NameV) (y : Int), e = .returned (.tuple #[.slice a1 xs.length c1, .int .i64 y]) ∧ NewN w w' a1 c1 xs := by
  go_enter Tryz.func19, Tryz.ntmps19
  go_wp2_with fail
  refine (l01From_any _ _ _ _ _ hr).mono ?_
  rintro e w1 ⟨g, rfl, hg, hs, x1⟩
  go_wp2_with fail
  refine (l09List_any _ _ hs hAN).mono ?_
  rintro e w2 ⟨a1, c1, xs, rfl, hl, hsh, ho, hd⟩
  have hg1 := hs.lt
  go_wp2_with fail
  refine (l09Year_any _ _ _ _ _ _ hd.1 ⟨ho.rd, hsh.ok⟩ (ho.off hg1)).mono ?_
  rintro e w3 ⟨y, rfl, hd2⟩
  go_wp2
  go_ret2
  exact ⟨a1, c1, xs, y, rfl, hl, hsh, ⟨(ho.drawn hd2.2 hg1).mono x1.size, hsh.ok⟩, draw_ext x1 (hd.trans hd2) hg⟩

set_option maxRecDepth 100000 in
set_option maxHeartbeats 1000000 in
theorem drawOfficialIn_any (hAN : ANs) (a : Option Addr) (n c : Nat) (bs : List Int) (w : World) (hr : RdBy w a n bs) :
    Calls Tryz.prog 22 #[.slice a n c] w fun e w' => ∃ (a1 : Option Addr) (c1 : Nat) (xs : List NameV) (s : ByteArray) (y : Int), e = .returned (.tuple #[.slice a1 xs.length c1, .string s, .int .i64 y]) ∧ s.size ≤ 17 ∧ NewN w w' a1 c1 xs := by
  go_enter Tryz.func22, Tryz.ntmps22
  go_wp2_with fail
  refine (l01From_any _ _ _ _ _ hr).mono ?_
  rintro e w1 ⟨g, rfl, hg, hs, x1⟩
  have hg1 := hs.lt
  go_wp2_with fail
  refine (drawUsedIn_any hAN _ _ _ _ _ (hr.ext x1)).mono ?_
  rintro e w2 ⟨a1, c1, xs, y, rfl, hl, hsh, ho, x2⟩
  go_wp2_with fail
  refine (l09Tongue_any _ _ _ _ _ _ (hs.ext x2) ho.rd (ho.1.off hg1) hsh).mono ?_
  rintro e w3 ⟨s, rfl, hz, hd⟩
  go_wp2
  refine bodyPost_ret (v := .tuple #[.slice a1 xs.length c1, .string s, .int .i64 y]) (by simp [results, Tryz.results22, go_sem]) rfl ?_
  exact ⟨a1, c1, xs, s, y, rfl, hz, hl, hsh, ⟨(ho.1.drawn hd.2 hg1).mono x1.size, hsh.ok⟩, draw_ext (x1.trans x2) hd hg⟩

set_option maxRecDepth 100000 in
set_option maxHeartbeats 1000000 in
theorem drawRenameIn_any (hAN : ANs) (a : Option Addr) (n c : Nat) (bs : List Int) (w : World) (hr : RdBy w a n bs) :
    Calls Tryz.prog 16 #[.slice a n c] w fun e w' => ∃ (a1 : Option Addr) (c1 : Nat) (xs : List NameV) (s : ByteArray) (y : Int) (t : ByteArray), e = .returned (.tuple #[.slice a1 xs.length c1, .string s, .int .i64 y, .string t]) ∧ s.size ≤ 17 ∧ t.size ≤ 217 ∧ NewN w w' a1 c1 xs := by
  go_enter Tryz.func16, Tryz.ntmps16
  go_wp2_with fail
  refine (l01From_any _ _ _ _ _ hr).mono ?_
  rintro e w1 ⟨g, rfl, hg, hs, x1⟩
  have hg1 := hs.lt
  go_wp2_with fail
  refine (drawOfficialIn_any hAN _ _ _ _ _ (hr.ext x1)).mono ?_
  rintro e w2 ⟨a1, c1, xs, s, y, rfl, hz, hl, hsh, ho, x2⟩
  go_wp2_with fail
  refine (l01DrawPhrase_any _ _ (hs.ext x2)).mono ?_
  rintro e w3 ⟨t, rfl, ht, hd⟩
  go_wp2
  refine bodyPost_ret (v := .tuple #[.slice a1 xs.length c1, .string s, .int .i64 y, .string t]) (by simp [results, Tryz.results16, go_sem]) rfl ?_
  exact ⟨a1, c1, xs, s, y, t, rfl, hz, ht, hl, hsh, ⟨(ho.1.drawn hd.2 hg1).mono x1.size, hsh.ok⟩, draw_ext (x1.trans x2) hd hg⟩

set_option maxRecDepth 100000 in
set_option maxHeartbeats 1000000 in
theorem drawLanguagesOf_any (hAN : ANs) (a : Option Addr) (n c : Nat) (bs : List Int) (w : World) (hr : RdBy w a n bs) :
    Calls Tryz.prog 28 #[.slice a n c] w fun e w' => ∃ (a1 : Option Addr) (c1 : Nat) (xs : List NameV), e = .returned (.slice a1 xs.length c1) ∧ NewN w w' a1 c1 xs := by
  go_enter Tryz.func28, Tryz.ntmps28
  go_wp2_with fail
  refine (l01From_any _ _ _ _ _ hr).mono ?_
  rintro e w1 ⟨g, rfl, hg, hs, x1⟩
  go_wp2_with fail
  refine (l09List_any _ _ hs hAN).mono ?_
  rintro e w2 ⟨a1, c1, xs, rfl, hl, hsh, ho, hd⟩
  go_wp2
  go_ret
  exact ⟨a1, c1, xs, rfl, hl, hsh, ⟨ho.mono x1.size, hsh.ok⟩, draw_ext x1 hd hg⟩

set_option maxRecDepth 100000 in
set_option maxHeartbeats 1000000 in
theorem drawBestIn_any (hAN : ANs) (a : Option Addr) (n c : Nat) (bs : List Int) (w : World) (hr : RdBy w a n bs) :
    Calls Tryz.prog 25 #[.slice a n c] w fun e w' => ∃ (a1 a2 : Option Addr) (c1 c2 : Nat) (xs : List NameV) (ls : List ByteArray) (y : Int), e = .returned (.tuple #[.slice a1 xs.length c1, .slice a2 ls.length c2, .int .i64 y]) ∧ NewN w w' a1 c1 xs ∧ ls.length ≤ 3 ∧ OwnS w' w.heap.size a2 ls.length c2 ls := by
  go_enter Tryz.func25, Tryz.ntmps25
  go_wp2_with fail
  refine (l01From_any _ _ _ _ _ hr).mono ?_
  rintro e w1 ⟨g, rfl, hg, hs, x1⟩
  have hg1 := hs.lt
  go_wp2_with fail
  refine (drawUsedIn_any hAN _ _ _ _ _ (hr.ext x1)).mono ?_
  rintro e w2 ⟨a1, c1, xs, y, rfl, hl, hsh, ho, x2⟩
  have hs2 := hs.ext x2
  have hg2 := hs2.lt
  have H0 := Lib.hid (And.intro hsh (And.intro ho x2))
  clear hsh ho
  go_wp2_with fail
  refine (l01Next_any _ _ _ (hs2.ext ((Ext.refl _).alloc _)) (by decide)).mono ?_
  rintro e w3 ⟨x, rfl, hx0, hx1, hd⟩
  have HL := Lib.hid (And.intro (Drew.pre ((Ext.refl _).alloc _) hd.drew) ((OwnG.lit layS 9 w2 (Nat.le_refl _) [] #[] rfl (by simp)).drawn hd.grown hg2))
  clear hd
  go_wp2
  go_loopw [8, 9] (fun v i wr => ∃ (l : List ByteArray) (a2 : Option Addr) (c2 k : Nat), v = .slice a2 l.length c2 ∧ i = .int .i64 k ∧ l.length + k ≤ 3 ∧ (∀ s ∈ l, s.size ≤ 17) ∧ OwnG layS 9 wr w2.heap.size a2 l.length c2 l ∧ Drew w2 g wr) (fun _ i _ => (intOf i).toNat)
  case atStart =>
    obtain ⟨k, rfl⟩ := Int.eq_ofNat_of_zero_le hx0
    exact ⟨[], _, _, k, rfl, rfl, by simp; omega, by simp, HL.out.2, HL.out.1⟩
  case round =>
    obtain ⟨l, a2, c2, k, rfl, rfl, hlk, hls, ho, hD⟩ := hrel
    have HB := Lib.hid hls
    clear hls
    by_cases hk : 0 < k
    · have hrd := H0.out.2.1.1.drawn hD.2 hg1
      have HO := Lib.hid (And.intro ho hD)
      clear ho hD
      go_wp2_with fail
      refine (l09Tongue_any _ _ _ _ _ _ HO.out.2.1 ⟨hrd.rd, H0.out.1.ok⟩ (hrd.off hg1) H0.out.1).mono ?_
      rintro e w4 ⟨s, rfl, hsz, hd⟩
      have H4 := Lib.hid (And.intro (HO.out.1.drawn hd.2 hg2) (HO.out.2.trans hd))
      clear hd hrd HO
      go_wp2_with (first | (at_builtin; refine wpList_appG layS rfl _ _ 48 9 rfl Tryz.underlying48 (.string ⟨#[]⟩) 16 Tryz.info_string rfl (by decide) w2.heap.size _ l.length _ l rfl (H4.out.1.alloc _) _ 1 _ [s] rfl (RdG.new1 layS _ _ _ rfl _) (by omega) (by have := H4.out.2.size; simp; omega) ?_; intro a4 c4 w5 hown hgrow; have HO := Lib.hid (And.intro hown (draw_grow H4.out.1.1 H4.out.2.1 hg2 (Nat.le_refl _) H4.out.2.2 hgrow)); clear hown hgrow))
      go_roundw
      case rel =>
        exact ⟨l ++ [s], a4, c4, k - 1, by simp, by rw [show ((k : Int) - 1) = ((k - 1 : Nat) : Int) from by omega], by simp; omega, by
          intro z hz
          rcases List.mem_append.1 hz with h | h
          · exact HB.out z h
          · rw [List.mem_singleton.1 h]; exact hsz, by simpa using HO.out.1, HO.out.2⟩
      case measure => simp [intOf]; omega
    · go_wp2
      refine bodyPost_ret (v := .tuple #[.slice a1 xs.length c1, .slice a2 l.length c2, .int .i64 y]) (by simp [results, Tryz.results25, go_sem]) rfl ?_
      exact ⟨a1, a2, c1, c2, xs, l, y, rfl, ⟨hl, H0.out.1, ⟨(H0.out.2.1.1.drawn hD.2 hg1).mono x1.size, H0.out.1.ok⟩, draw_ext (x1.trans x2) hD hg⟩, by omega, ⟨ho.mono (Nat.le_trans x1.size x2.size), fun s hs => by have := HB.out s hs; omega⟩⟩

end Go.Proofs.YteencdgaldhanaaGreatDoor
