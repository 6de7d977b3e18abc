/-
  The reference's draws for the functions on trees of classes.
-/
import Derived.Test.YtjkffefenffffaaG2
import Derived.Deep.RegionWith
namespace Go.Proofs.Ytjkffefenffffaa
open Go.RowKit

set_option maxHeartbeats 400000 in
theorem l10Class_any (g : Nat) (a : Option Addr) (n c : Nat) (w : World) (hs : Src w g) (hn : n ≤ 100) :
    Calls Try.prog 66 #[.pointer (some ⟨g, 0, none⟩), .slice a n c] w fun e w' => ∃ x : Int, e = .returned (.int .i64 x) ∧ Drawn w g w' := by
  go_enter Try.func66, Try.ntmps66
  go_wp2_with fail
  refine (l01Next_any _ _ _ hs (by omega)).mono ?_
  rintro e w1 ⟨x, rfl, hx0, hx1, hd1⟩
  have x1 : x < 12 := by omega
  clear hx1
  go_wp2_with fail
  refine (l01Next_any _ _ _ hd1.1 (by omega)).mono ?_
  rintro e w2 ⟨y, rfl, hy0, hy1, hd2⟩
  have y1 : y < 200 := by omega
  clear hy1
  go_wp2_with fail
  refine (l01Next_any _ _ _ hd2.1 (by omega)).mono ?_
  rintro e w3 ⟨z, rfl, hz0, hz1, hd3⟩
  have z1 : z < 12 := by omega
  clear hz1
  have HD := Lib.hid (show Drawn w g w3 from ⟨hd3.1, (hd1.2.trans hd2.2).trans hd3.2⟩)
  clear hd1 hd2 hd3
  go_wp2
  go_ret
  exact ⟨_, rfl, HD.out⟩

/-- A drawn list and a number: the list lies in new memory. -/
def DrawLI (w : World) (e : Ending) (w' : World) : Prop := ∃ (v : Value) (zs : List Int) (x : Int), e = .returned (.tuple #[v, .int .i64 x]) ∧ zs.length ≤ 100 ∧ NewI w w' zs v
def DrawLII (w : World) (e : Ending) (w' : World) : Prop := ∃ (v : Value) (zs : List Int) (x y : Int), e = .returned (.tuple #[v, .int .i64 x, .int .i64 y]) ∧ zs.length ≤ 100 ∧ NewI w w' zs v
def DrawL (w : World) (e : Ending) (w' : World) : Prop := ∃ (v : Value) (zs : List Int), e = .returned v ∧ zs.length ≤ 100 ∧ NewI w w' zs v

set_option maxHeartbeats 400000 in
theorem drawKindsOf_any (a : Option Addr) (n c : Nat) (bs : List Int) (w : World) (hr : RdBy w a n bs) :
    Calls Try.prog 63 #[.slice a n c] w (DrawLI w) := by
  go_enter Try.func63, Try.ntmps63
  go_wp2_with fail
  refine (l01From_any _ _ _ _ _ hr).mono ?_
  rintro e w1 ⟨g, rfl, hg, hs, hx1⟩
  go_wp2_with fail
  refine (l10Draw_any _ _ hs).mono ?_
  rintro e w2 ⟨v, rfl, a1, n1, c1, zs, rfl, hn1, ho, hs2, hgr⟩
  go_wp2_with fail
  refine (l10Class_any _ _ _ _ _ hs2 hn1).mono ?_
  rintro e w3 ⟨x, rfl, hd⟩
  have ho3 := ho.drawn hd.grown hs.lt
  have hx3 := hx1.wrote (grown_trans hgr hd.grown) hg
  have HD := Lib.hid (And.intro (ho3.mono hx1.size) hx3)
  clear hd hs2 ho hgr hs hx1 ho3 hx3
  go_wp2
  go_ret2
  exact ⟨_, zs, _, rfl, by rw [HD.out.1.rd.len]; exact hn1, _, _, _, rfl, HD.out.1, HD.out.2⟩

theorem drawAddClass_any (a : Option Addr) (n c : Nat) (bs : List Int) (w : World) (hr : RdBy w a n bs) :
    Calls Try.prog 40 #[.slice a n c] w (DrawLI w) := by
  go_enter Try.func40, Try.ntmps40
  go_wp2_with fail
  refine (drawKindsOf_any _ _ _ _ _ hr).mono ?_
  rintro e w1 ⟨v, zs, x, rfl, hz, hn⟩
  have HD := Lib.hid (And.intro hz hn)
  obtain ⟨a1, n1, c1, rfl, _, _⟩ := hn
  clear hz
  go_wp2
  go_ret2
  exact ⟨_, zs, _, rfl, HD.out.1, HD.out.2⟩

theorem drawSubclassesOf_any (a : Option Addr) (n c : Nat) (bs : List Int) (w : World) (hr : RdBy w a n bs) :
    Calls Try.prog 47 #[.slice a n c] w (DrawLI w) := by
  go_enter Try.func47, Try.ntmps47
  go_wp2_with fail
  refine (drawKindsOf_any _ _ _ _ _ hr).mono ?_
  rintro e w1 ⟨v, zs, x, rfl, hz, hn⟩
  have HD := Lib.hid (And.intro hz hn)
  obtain ⟨a1, n1, c1, rfl, _, _⟩ := hn
  clear hz
  go_wp2
  go_ret2
  exact ⟨_, zs, _, rfl, HD.out.1, HD.out.2⟩

set_option maxHeartbeats 400000 in
theorem drawCommonKind_any (a : Option Addr) (n c : Nat) (bs : List Int) (w : World) (hr : RdBy w a n bs) :
    Calls Try.prog 45 #[.slice a n c] w (DrawLII w) := by
  go_enter Try.func45, Try.ntmps45
  go_wp2_with fail
  refine (l01From_any _ _ _ _ _ hr).mono ?_
  rintro e w1 ⟨g, rfl, hg, hs, hx1⟩
  go_wp2_with fail
  refine (drawKindsOf_any _ _ _ _ _ (hr.ext hx1)).mono ?_
  rintro e w2 ⟨v, zs, x, rfl, hz, a1, n1, c1, rfl, ho, hx2⟩
  have hn1 : n1 ≤ 100 := by have := ho.rd.len; omega
  go_wp2_with fail
  refine (l10Class_any _ _ _ _ _ (hs.ext hx2) hn1).mono ?_
  rintro e w3 ⟨y, rfl, hd⟩
  have ho3 := ho.drawn hd.grown hs.lt
  have hx3 := (hx1.trans hx2).wrote hd.grown hg
  have HD := Lib.hid (And.intro (ho3.mono hx1.size) (And.intro hx3 hz))
  clear hd ho hs hx1 hx2 ho3 hx3 hz
  go_wp2
  go_ret3
  exact ⟨_, zs, _, _, rfl, HD.out.2.2, _, _, _, rfl, HD.out.1, HD.out.2.1⟩

theorem drawMoveClass_any (a : Option Addr) (n c : Nat) (bs : List Int) (w : World) (hr : RdBy w a n bs) :
    Calls Try.prog 41 #[.slice a n c] w (DrawLII w) := by
  go_enter Try.func41, Try.ntmps41
  go_wp2_with fail
  refine (drawCommonKind_any _ _ _ _ _ hr).mono ?_
  rintro e w1 ⟨v, zs, x, y, rfl, hz, hn⟩
  have HD := Lib.hid (And.intro hz hn)
  obtain ⟨a1, n1, c1, rfl, _, _⟩ := hn
  clear hz
  go_wp2
  go_ret3
  exact ⟨_, zs, _, _, rfl, HD.out.1, HD.out.2⟩

set_option maxHeartbeats 400000 in
theorem drawLeavesOf_any (a : Option Addr) (n c : Nat) (bs : List Int) (w : World) (hr : RdBy w a n bs) :
    Calls Try.prog 42 #[.slice a n c] w (DrawL w) := by
  go_enter Try.func42, Try.ntmps42
  go_wp2_with fail
  refine (l01From_any _ _ _ _ _ hr).mono ?_
  rintro e w1 ⟨g, rfl, hg, hs, hx1⟩
  go_wp2_with fail
  refine (l10Draw_any _ _ hs).mono ?_
  rintro e w2 ⟨v, rfl, a1, n1, c1, zs, rfl, hn1, ho, hs2, hgr⟩
  have hx3 := hx1.wrote hgr hg
  have HD := Lib.hid (And.intro (ho.mono hx1.size) hx3)
  clear hs2 ho hgr hs hx1 hx3
  go_wp2
  go_ret
  exact ⟨_, zs, rfl, by rw [HD.out.1.rd.len]; exact hn1, _, _, _, rfl, HD.out.1, HD.out.2⟩

set_option maxHeartbeats 1000000 in
theorem drawIsKindOf_any (a : Option Addr) (n c : Nat) (bs : List Int) (w : World) (hr : RdBy w a n bs) :
    Calls Try.prog 46 #[.slice a n c] w (DrawLII w) := by
  go_enter Try.func46, Try.ntmps46
  go_wp2_with fail
  refine (l01From_any _ _ _ _ _ hr).mono ?_
  rintro e w1 ⟨g, rfl, hg, hs, hx1⟩
  go_wp2_with fail
  refine (l10Draw_any _ _ hs).mono ?_
  rintro e w2 ⟨v, rfl, a1, n1, c1, zs, rfl, hn1, ho, hs2, hgr⟩
  go_wp2_with fail
  refine (l10Class_any _ _ _ _ _ hs2 hn1).mono ?_
  rintro e w3 ⟨x, rfl, hd⟩
  have hgw := hs.lt
  have ho3 := ho.drawn hd.grown hgw
  have hx3 := hx1.wrote (grown_trans hgr hd.grown) hg
  have hs3 := hd.1
  have hlen := ho3.rd.len
  clear hd hs2 ho hgr hs
  have last : ∀ (w4 : World) (y : Int), OwnI w4 w.heap.size a1 n1 c1 zs → Ext w w4 → DrawLII w (.returned (.tuple #[.slice a1 n1 c1, .int .i64 x, .int .i64 y])) w4 := fun w4 y h1 h2 =>
    ⟨_, zs, x, y, rfl, by rw [hlen]; exact hn1, _, _, _, rfl, h1, h2⟩
  have HL := Lib.hid last
  have HLEN := Lib.hid hlen
  clear last hlen
  have H3 := Lib.hid (And.intro ho3 (And.intro hx3 hs3))
  have hx1s := hx1.size
  clear ho3 hx3 hs3 hx1
  cases hp : decide (0 < n1)
  · have hp' : ¬ 0 < n1 := by simpa using hp
    clear hp
    go_wp2_with fail
    refine (l10Class_any _ _ _ _ _ H3.out.2.2 hn1).mono ?_
    rintro e w4 ⟨y, rfl, hd⟩
    have HD := Lib.hid hd
    clear hd
    go_wp2
    go_ret3
    exact HL.out _ _ ((H3.out.1.drawn HD.out.grown hgw).mono hx1s) (H3.out.2.1.wrote HD.out.grown hg)
  · have hp' : 0 < n1 := by simpa using hp
    clear hp
    cases hb : inB x 0 ((n1 : Int) - 1)
    · have HB := Lib.hid hb
      clear hb
      go_wp2_with fail
      refine (l01In_any _ _ _ _).mono ?_
      rintro e w' ⟨rfl, rfl⟩
      rw [HB.out]
      go_wp2_with fail
      refine (l10Class_any _ _ _ _ _ H3.out.2.2 hn1).mono ?_
      rintro e w4 ⟨y, rfl, hd⟩
      have HD := Lib.hid hd
      clear hd
      go_wp2
      go_ret3
      exact HL.out _ _ ((H3.out.1.drawn HD.out.grown hgw).mono hx1s) (H3.out.2.1.wrote HD.out.grown hg)
    · have HB := Lib.hid hb
      clear hb
      cases ht : treeB zs
      · have HT := Lib.hid ht
        clear ht
        go_wp2_with fail
        refine (l01In_any _ _ _ _).mono ?_
        rintro e w' ⟨rfl, rfl⟩
        rw [HB.out]
        go_wp2_with fail
        refine (specIsClassTree_any _ _ _ _ _ H3.out.1.rd).mono ?_
        rintro e w' ⟨rfl, rfl⟩
        rw [HT.out]
        go_wp2_with fail
        refine (l10Class_any _ _ _ _ _ H3.out.2.2 hn1).mono ?_
        rintro e w4 ⟨y, rfl, hd⟩
        have HD := Lib.hid hd
        clear hd
        go_wp2
        go_ret3
        exact HL.out _ _ ((H3.out.1.drawn HD.out.grown hgw).mono hx1s) (H3.out.2.1.wrote HD.out.grown hg)
      · have HT := Lib.hid ht
        clear ht
        go_wp2_with fail
        refine (l01In_any _ _ _ _).mono ?_
        rintro e w' ⟨rfl, rfl⟩
        rw [HB.out]
        go_wp2_with fail
        refine (specIsClassTree_any _ _ _ _ _ H3.out.1.rd).mono ?_
        rintro e w' ⟨rfl, rfl⟩
        rw [HT.out]
        go_wp2_with fail
        refine (l01Next_any _ _ _ H3.out.2.2 (by omega)).mono ?_
        rintro e w4 ⟨y, rfl, hy0, hy1, hd⟩
        have H4 := Lib.hid (And.intro (H3.out.1.drawn hd.grown hgw) (And.intro (H3.out.2.1.wrote hd.grown hg) hd.1))
        clear hd hy0 hy1
        cases hy : (y == 0)
        · go_wp2_with fail
          refine (l10Class_any _ _ _ _ _ H4.out.2.2 hn1).mono ?_
          rintro e w5 ⟨y5, rfl, hd⟩
          have HD := Lib.hid hd
          clear hd
          go_wp2
          go_ret3
          exact HL.out _ _ ((H4.out.1.drawn HD.out.grown hgw).mono hx1s) (H4.out.2.1.wrote HD.out.grown hg)
        · obtain ⟨hxa, hxb⟩ := inB_iff.1 HB.out
          obtain ⟨k, rfl⟩ := Int.eq_ofNat_of_zero_le hxa
          have hkn : k < n1 := by omega
          have htree := treeB_tree HT.out
          have hkl := kinds_len htree k (by rw [HLEN.out]; exact hkn)
          have hkp : 0 < (kinds zs k).length := by rw [kinds_step htree (by rw [HLEN.out]; exact hkn)]; simp
          clear hxa hxb
          go_wp2_with fail
          refine (l10Kinds_any _ _ _ _ _ _ H4.out.1.rd htree hkn).mono ?_
          rintro e w5 ⟨v5, rfl, a5, n5, c5, rfl, ho5, hx5⟩
          have hn5 : n5 ≤ 100 ∧ 0 < n5 := by have := ho5.rd.len; omega
          obtain ⟨g5, rfl⟩ : ∃ g5, a5 = some ⟨g5, 0, none⟩ := by
            rcases own_addr ho5.1 with rfl | h
            · have := ho5.rd.isNone.1; omega
            · exact h
          have hg5 : g ≠ g5 := Nat.ne_of_lt (Nat.lt_of_lt_of_le H4.out.2.2.lt (ho5.1.lt _ rfl).1)
          have H5 := Lib.hid (And.intro ho5 (And.intro ((H4.out.1).ext hx5) (And.intro (H4.out.2.1.trans hx5) (H4.out.2.2.ext hx5))))
          have hkey : ∀ (V w6 : World) (z : Nat), V.heap = w5.heap → Drawn V g w6 → z < n5 → w6.cell? ⟨g5, z, none⟩ = some (.int .i64 (nth (kinds zs k) z)) := by
            intro V w6 z hV hd hz
            obtain ⟨b, o, e, _, hc⟩ := ho5.rd.at hn5.2
            cases e
            rw [World.cell?_of_block (w := w5) (by rw [← hV]; exact hd.2.block g5 (by rintro g' e; cases e; exact fun h => hg5 h.symm))]
            have := hc z hz
            rwa [Nat.zero_add] at this
          have hfin : ∀ (k5 : Nat) (w6 : World) (z : Int), Drawn (w5.drewN k5) g w6 → DrawLII w (.returned (.tuple #[.slice a1 n1 c1, .int .i64 k, .int .i64 z])) w6 := by
            intro k5 w6 z hd
            have st := ((Still.refl w5).drewN k5).ext
            exact HL.out _ _ (((H5.out.2.1.ext st).drawn hd.grown hgw).mono hx1s) ((H5.out.2.2.1.trans st).wrote hd.grown hg)
          have hdr : ∀ k, Src (w5.drewN k) g := fun k => (H4.out.2.2.ext hx5).ext ((Still.refl w5).drewN k).ext
          have HK := Lib.hid (And.intro hkey (And.intro hfin hdr))
          clear ho5 hx5 hkey hfin hdr
          go_wp2
          have hnle : (n5 : Int) ≤ 4294967296 := by omega
          go_region_with (go_at_call 67; refine (l01Next_any g (n5 : Int) w5.drew (HK.out.2.2 1) hnle).mono ?_; rintro e w6 ⟨z, rfl, hz0, hz1, hd⟩; obtain ⟨z, rfl⟩ := Int.eq_ofNat_of_zero_le hz0; have hzn : z < n5 := (by omega); have hcz := HK.out.1 w5.drew w6 z rfl hd hzn; have HD := Lib.hid hd; clear hd hz0 hz1)
          all_goals
            go_wp2
            go_ret3
            exact HK.out.2.1 1 _ _ HD.out

end Go.Proofs.Ytjkffefenffffaa
