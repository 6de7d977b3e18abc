/-
  The reference's draws of generics and phrases with generics.
-/
import Derived.Test.YtfglmoedicijkaaDoorDS
import Derived.Test.YtfglmoedicijkaaDoorZ
import Derived.Test.YtfglmoedicijkaaDoorOC
namespace Go.Proofs.YtfglmoedicijkaaDoor
open Go.RowKit

/-- Short texts in new memory. -/
def NewT (w w' : World) (a : Option Addr) (n c m : Nat) (ss : List ByteArray) : Prop := OwnG layS 9 w' w.heap.size a n c ss ∧ n ≤ m ∧ ∀ s ∈ ss, s.size ≤ 17
def DrewT (m : Nat) (w : World) (g : Nat) (e : Ending) (w' : World) : Prop := ∃ a n c ss, e = .returned (.slice a n c) ∧ NewT w w' a n c m ss ∧ Drew w g w'
def genL : List ByteArray := [⟨#[114, 105, 118, 101, 114]⟩, ⟨#[102, 111, 114, 100]⟩, ⟨#[104, 105, 108, 108]⟩, ⟨#[108, 97, 107, 101]⟩, ⟨#[98, 97, 121]⟩]
theorem genL_short : ∀ s ∈ genL, s.size ≤ 17 := by decide

set_option maxRecDepth 100000 in
set_option maxHeartbeats 1000000 in
theorem l08Generics_any (g : Nat) (w : World) (hs : Src w g) :
    Calls Tryd.prog 60 #[.pointer (some ⟨g, 0, none⟩)] w (DrewT 6 w g) := by
  have hg := hs.lt
  have HS := Lib.hid hs
  clear hs
  go_enter Tryd.func60, Tryd.ntmps60
  go_wp2_with fail
  refine (l01Next_any _ _ _ (HS.out.ext ((Ext.refl _).alloc _)) (by omega)).mono ?_
  rintro e w1 ⟨x, rfl, hx0, hx1, hd⟩
  have H1 := Lib.hid (And.intro (Drew.pre ((Ext.refl _).alloc _) hd.drew) ((OwnG.lit layS 9 w (Nat.le_refl _) genL _ rfl (by decide)).drawn hd.grown hg))
  clear hd
  by_cases x0 : x = 0
  · subst x0
    go_wp2_with fail
    refine (l01Next_any _ _ _ H1.out.1.1 (by omega)).mono ?_
    rintro e w2 ⟨y, rfl, hy0, hy1, hd⟩
    obtain ⟨k, rfl⟩ := Int.eq_ofNat_of_zero_le hy0
    have hk : k ≤ 5 := by omega
    have hki : (k : Int) ≤ 5 := by omega
    have H2 := Lib.hid (And.intro (H1.out.1.trans hd.drew) (H1.out.2.drawn hd.grown hg))
    clear hd hy1
    go_wp2
    go_ret
    exact ⟨_, _, _, _, rfl, ⟨H2.out.2.cut hk, by omega, fun s hs => genL_short s (List.mem_of_mem_take hs)⟩, H2.out.1⟩
  by_cases x1 : x = 1
  · subst x1
    have hg1 := H1.out.1.1.lt
    go_wp2_with fail
    refine (l01Next_any _ _ _ (H1.out.1.1.ext ((Ext.refl _).alloc _)) (by omega)).mono ?_
    rintro e w3 ⟨z, rfl, hz0, hz1, hd⟩
    obtain ⟨j, rfl⟩ := Int.eq_ofNat_of_zero_le hz0
    have hj : j < 3 := by omega
    have hji : (j : Int) < 3 := by omega
    obtain ⟨u, hc, hu⟩ := Lits.new (n := 3) hd.drew hg1 (by kernel_rfl) rfl j hj
    have H3 := Lib.hid (And.intro (H1.out.1.trans (Drew.pre ((Ext.refl _).alloc _) hd.drew)) ((H1.out.2.ext ((Ext.refl _).alloc _)).drawn hd.grown hg))
    clear hd hz1
    go_wp2_with (first | (at_builtin; refine wpList_appG layS rfl _ _ 23 9 rfl Tryd.underlying23 (.string ⟨#[]⟩) 16 Tryd.info_string rfl (by decide) w.heap.size _ 5 _ genL rfl (H3.out.2.alloc _) _ 1 _ [u] rfl (RdG.new1 layS _ _ _ rfl _) (by omega) (by have := H3.out.1.size; simp; omega) ?_; intro a2 c2 w5 hown hgrow; have HE := Lib.hid (And.intro hown (draw_grow H3.out.2.1 H3.out.1.1 hg (Nat.le_refl _) H3.out.1.2 hgrow)); clear hown hgrow))
    go_ret
    exact ⟨_, _, _, _, rfl, ⟨HE.out.1, by decide, fun s hs => (List.mem_append.1 hs).elim (genL_short s) (fun h => by rw [List.mem_singleton.1 h]; exact hu)⟩, HE.out.2⟩
  · go_wp2
    go_ret
    exact ⟨_, _, _, _, rfl, ⟨H1.out.2, by decide, genL_short⟩, H1.out.1⟩

set_option maxRecDepth 100000 in
set_option maxHeartbeats 1000000 in
theorem l08Phrase_any (g : Nat) (w : World) (hs : Src w g) :
    Calls Tryd.prog 61 #[.pointer (some ⟨g, 0, none⟩)] w (DrewS 240 w g) := by
  have HS := Lib.hid hs
  clear hs
  go_enter Tryd.func61, Tryd.ntmps61
  go_wp2_with fail
  refine (l01DrawPhrase_any _ _ HS.out).mono ?_
  rintro e w1 ⟨t, rfl, htz, hd⟩
  have H1 := Lib.hid hd
  clear hd
  go_wp2_with fail
  refine (l01Next_any _ _ _ H1.out.1 (by omega)).mono ?_
  rintro e w2 ⟨y, rfl, hy0, hy1, hd⟩
  have H2 := Lib.hid (H1.out.trans hd.drew)
  clear hd
  have hg2 := H2.out.1.lt
  by_cases y0 : y = 0
  · subst y0
    go_wp2_with fail
    refine (l01Next_any _ _ _ (H2.out.1.ext ((Ext.refl _).alloc _)) (by omega)).mono ?_
    rintro e w3 ⟨z, rfl, hz0, hz1, hd⟩
    obtain ⟨j, rfl⟩ := Int.eq_ofNat_of_zero_le hz0
    have hj : j < 3 := by omega
    have hji : (j : Int) < 3 := by omega
    obtain ⟨u, hc, hu⟩ := Lits.new (n := 3) hd.drew hg2 (by kernel_rfl) rfl j hj
    have H3 := Lib.hid (H2.out.trans (Drew.pre ((Ext.refl _).alloc _) hd.drew))
    clear hd hz1
    go_wp2
    go_ret
    exact ⟨_, rfl, by simp only [ByteArray.size_append]; have e1 : (⟨#[32]⟩ : ByteArray).size = 1 := rfl; omega, H3.out⟩
  by_cases y1 : y = 1
  · subst y1
    go_wp2_with fail
    refine (l01Next_any _ _ _ (H2.out.1.ext ((Ext.refl _).alloc _)) (by omega)).mono ?_
    rintro e w3 ⟨z, rfl, hz0, hz1, hd⟩
    obtain ⟨j, rfl⟩ := Int.eq_ofNat_of_zero_le hz0
    have hj : j < 3 := by omega
    have hji : (j : Int) < 3 := by omega
    obtain ⟨u, hc, hu⟩ := Lits.new (n := 3) hd.drew hg2 (by kernel_rfl) rfl j hj
    have H3 := Lib.hid (H2.out.trans (Drew.pre ((Ext.refl _).alloc _) hd.drew))
    clear hd hz1
    go_wp2
    go_ret
    exact ⟨_, rfl, by simp only [ByteArray.size_append]; have e1 : (⟨#[32]⟩ : ByteArray).size = 1 := rfl; omega, H3.out⟩
  by_cases y2 : y = 2
  · subst y2
    go_wp2_with fail
    refine (l01Next_any _ _ _ (H2.out.1.ext ((Ext.refl _).alloc _)) (by omega)).mono ?_
    rintro e w3 ⟨z, rfl, hz0, hz1, hd⟩
    obtain ⟨j, rfl⟩ := Int.eq_ofNat_of_zero_le hz0
    have hj : j < 3 := by omega
    have hji : (j : Int) < 3 := by omega
    obtain ⟨u, hc, hu⟩ := Lits.new (n := 3) hd.drew hg2 (by kernel_rfl) rfl j hj
    have H3 := Lib.hid (H2.out.trans (Drew.pre ((Ext.refl _).alloc _) hd.drew))
    clear hd hz1
    go_wp2
    go_ret
    exact ⟨_, rfl, by omega, H3.out⟩
  · go_wp2
    go_ret
    exact ⟨_, rfl, by omega, H2.out⟩

set_option maxRecDepth 100000 in
set_option maxHeartbeats 1000000 in
theorem drawTakeApart_any (a : Option Addr) (n c : Nat) (bs : List Int) (w : World) (hr : RdBy w a n bs) :
    Calls Tryd.prog 27 #[.slice a n c] w fun e w' => ∃ a1 n1 c1 ss t, e = .returned (.tuple #[.slice a1 n1 c1, .string t]) ∧ NewT w w' a1 n1 c1 6 ss ∧ t.size ≤ 240 ∧ Ext w w' := by
  go_enter Tryd.func27, Tryd.ntmps27
  go_wp2_with fail
  refine (l01From_any _ _ _ _ _ hr).mono ?_
  rintro e w1 ⟨g, rfl, hg, hs, x1⟩
  go_wp2_with fail
  have hg1 := hs.lt
  refine (l08Generics_any _ _ hs).mono ?_
  rintro e w2 ⟨a2, n2, c2, ss, rfl, h2, hd⟩
  have H2 := Lib.hid (And.intro h2 hd)
  clear h2 hd hs
  go_wp2_with fail
  refine (l08Phrase_any _ _ H2.out.2.1).mono ?_
  rintro e w3 ⟨t, rfl, ht, hd⟩
  have H3 := Lib.hid hd
  clear hd
  go_wp2
  go_ret2
  exact ⟨_, _, _, _, _, rfl, ⟨(H2.out.1.1.drawn H3.out.2 hg1).mono x1.size, H2.out.1.2⟩, ht, draw_ext x1 (H2.out.2.trans H3.out) hg⟩

def toL : List ByteArray := [⟨#[102, 108, 117, 115, 115]⟩, ⟨#[102, 117, 114, 116]⟩, ⟨#[98, 101, 114, 103]⟩, ⟨#[115, 101, 101]⟩, ⟨#[98, 117, 99, 104, 116]⟩]
theorem toL_short : ∀ s ∈ toL, s.size ≤ 17 := by decide
theorem NewT.rd {w w' : World} {a : Option Addr} {n c m : Nat} {ss : List ByteArray} (h : NewT w w' a n c m ss) : RdS w' a n ss := ⟨h.1.rd, fun s hs => Nat.le_trans (h.2.2 s hs) (by decide)⟩
theorem NewT.cap {w w' : World} {a : Option Addr} {n c m : Nat} {ss : List ByteArray} (h : NewT w w' a n c m ss) : n ≤ c := OwnS.cap ⟨h.1, fun s hs => Nat.le_trans (h.2.2 s hs) (by decide)⟩

set_option maxRecDepth 100000 in
set_option maxHeartbeats 1000000 in
theorem drawTranslateGeneric_any (a : Option Addr) (n c : Nat) (bs : List Int) (w : World) (hr : RdBy w a n bs) :
    Calls Tryd.prog 33 #[.slice a n c] w fun e w' => ∃ a1 n1 c1 gs a2 n2 c2 ts t, e = .returned (.tuple #[.slice a1 n1 c1, .slice a2 n2 c2, .string t]) ∧ NewT w w' a1 n1 c1 6 gs ∧ NewT w w' a2 n2 c2 6 ts ∧ t.size ≤ 240 ∧ Ext w w' := by
  go_enter Tryd.func33, Tryd.ntmps33
  go_wp2_with fail
  refine (l01From_any _ _ _ _ _ hr).mono ?_
  rintro e w1 ⟨g, rfl, hg, hs, x1⟩
  have hg1 := hs.lt
  have hsz1 := x1.size
  have H1 := Lib.hid (And.intro hs (And.intro x1 (hr.ext x1)))
  clear hs x1
  go_wp2_with fail
  refine (drawTakeApart_any _ _ _ _ _ H1.out.2.2).mono ?_
  rintro e w2 ⟨a2, n2, c2, gs, t, rfl, h2, ht, x2⟩
  have hsz2 := x2.size
  have xb := (Ext.refl w2).alloc (.cells #[.string ⟨#[102, 108, 117, 115, 115]⟩, .string ⟨#[102, 117, 114, 116]⟩, .string ⟨#[98, 101, 114, 103]⟩, .string ⟨#[115, 101, 101]⟩, .string ⟨#[98, 117, 99, 104, 116]⟩] 9)
  have H2 := Lib.hid (And.intro (H1.out.1.ext (x2.trans xb)) (And.intro (h2.1.ext xb) (And.intro h2.2 (And.intro ((H1.out.2.1.trans x2).trans xb) (OwnG.lit layS 9 w2 (Nat.le_refl _) toL _ rfl (by decide))))))
  have hn2 := h2.2.1
  clear h2 x2 xb
  go_wp2_with fail
  refine (l01Next_any _ _ _ H2.out.1 (by omega)).mono ?_
  rintro e w3 ⟨y, rfl, hy0, hy1, hd⟩
  have H3 := Lib.hid (And.intro (H2.out.2.1.drawn hd.grown hg1) (And.intro (draw_ext H2.out.2.2.2.1 hd.drew hg) (And.intro (H2.out.2.2.2.2.drawn hd.grown (Nat.lt_of_lt_of_le hg1 hsz2)) hd.1)))
  clear hd
  have hb12 : w.heap.size ≤ w2.heap.size := Nat.le_trans hsz1 hsz2
  by_cases y0 : y = 0
  · subst y0
    go_wp2
    refine wp_region_any (by kernel_rfl) ?_
    try (change wpAny _ _ _ _ _ _ _ (World.drew _))
    refine takeYes 0 20 ?v1 rfl rfl (by kernel_rfl) (by kernel_rfl) (by kernel_rfl) (fun _ _ _ _ h => h) (by kernel_rfl) ?y1 ?r1
    case y1 => intro w; go_simp; first | done | with_reducible rfl
    simp only [Act.put, List.setIfInBounds_toArray, List.set_cons_zero, List.set_cons_succ]
    refine takeYes 1 21 ?v2 rfl rfl (by kernel_rfl) (by kernel_rfl) (by kernel_rfl) (fun _ _ _ _ h => h) (by kernel_rfl) ?y2 ?r2
    case y2 => intro w; go_simp; first | done | with_reducible rfl
    simp only [Act.put, List.setIfInBounds_toArray, List.set_cons_zero, List.set_cons_succ]
    refine takeYes 2 22 ?v3 rfl rfl (by kernel_rfl) (by kernel_rfl) (by kernel_rfl) (fun _ _ _ _ h => h) (by kernel_rfl) ?y3 ?r3
    case y3 => intro w; go_simp; first | done | with_reducible rfl
    simp only [Act.put, List.setIfInBounds_toArray, List.set_cons_zero, List.set_cons_succ]
    refine takeYes 5 25 ?v4 rfl rfl (by kernel_rfl) (by kernel_rfl) (by kernel_rfl) (fun _ _ _ _ h => h) (by kernel_rfl) ?y4 ?r4
    case y4 => intro w; go_simp; first | done | with_reducible rfl
    simp only [Act.put, List.setIfInBounds_toArray, List.set_cons_zero, List.set_cons_succ]
    refine wpAny_ready (rs := [3]) (by kernel_rfl) (by simp) ?_
    refine AllReady.cons rfl (fun K hK => ?_) AllReady.nil
    go_simp
    refine (l01Next_any _ _ _ (H3.out.2.2.2.ext (Ext.refl _).drew) (by omega)).mono ?_
    rintro e w4 ⟨z, rfl, hz0, hz1, hd⟩
    obtain ⟨k, rfl⟩ := Int.eq_ofNat_of_zero_le hz0
    have hk : k ≤ 5 := by omega
    have hki : (k : Int) ≤ 5 := by omega
    have hd4 : Drew w3 g w4 := Drew.pre (Ext.refl _).drew hd.drew
    have H4 := Lib.hid (And.intro (H3.out.1.drawn hd4.2 hg1) (And.intro (draw_ext H3.out.2.1 hd4 hg) (H3.out.2.2.1.drawn hd4.2 (Nat.lt_of_lt_of_le hg1 hsz2))))
    clear hd hd4 hz1
    go_wp2_with fail
    try simp only [Act.put, List.setIfInBounds_toArray, List.set_cons_zero, List.set_cons_succ]
    refine takeYes 4 24 ?v5 rfl rfl (by kernel_rfl) (by kernel_rfl) (by kernel_rfl) (fun _ _ _ _ h => h) (by kernel_rfl) ?y5 ?r5
    case y5 => intro w; go_simp; first | done | with_reducible rfl
    simp only [Act.put, List.setIfInBounds_toArray, List.set_cons_zero, List.set_cons_succ]
    refine takeYes 6 2 ?v6 rfl rfl (by kernel_rfl) (by kernel_rfl) (by kernel_rfl) (fun _ _ _ _ h => h) (by kernel_rfl) ?y6 ?r6
    case y6 => intro w; go_simp; first | done | with_reducible rfl
    simp only [Act.put, List.setIfInBounds_toArray, List.set_cons_zero, List.set_cons_succ]
    refine takeYes 7 3 ?v7 rfl rfl (by kernel_rfl) (by kernel_rfl) (by kernel_rfl) (fun _ _ _ _ h => h) (by kernel_rfl) ?y7 ?r7
    case y7 => intro w; go_simp; first | done | with_reducible rfl
    simp only [Act.put, List.setIfInBounds_toArray, List.set_cons_zero, List.set_cons_succ]
    refine takeYes 8 4 ?v8 rfl rfl (by kernel_rfl) (by kernel_rfl) (by kernel_rfl) (fun _ _ _ _ h => h) (by kernel_rfl) ?y8 ?r8
    case y8 => intro w; go_simp; first | done | with_reducible rfl
    simp only [Act.put, List.setIfInBounds_toArray, List.set_cons_zero, List.set_cons_succ]
    refine wpAny_done (by kernel_rfl) ?_ _
    go_wp2
    go_ret3
    exact ⟨_, _, _, gs, _, _, _, _, t, rfl, ⟨H4.out.1.mono hsz1, H2.out.2.2.1⟩, ⟨(H4.out.2.2.cut hk).mono hb12, by omega, fun s hs => toL_short s (List.mem_of_mem_take hs)⟩, ht, H4.out.2.1⟩
  · have hm : min (5 : Int) n2 = ((min 5 n2 : Nat) : Int) := by omega
    have hm5 : min 5 n2 ≤ 5 := Nat.min_le_left _ _
    have hmi : ((min 5 n2 : Nat) : Int) ≤ 5 := by omega
    go_wp2
    go_region
    all_goals
      go_wp2
      go_ret3
      exact ⟨_, _, _, gs, _, _, _, _, t, rfl, ⟨(H3.out.1.ext (Ext.refl _).drew).mono hsz1, H2.out.2.2.1⟩, ⟨((H3.out.2.2.1.cut hm5).ext (Ext.refl _).drew).mono hb12, by omega, fun s hs => toL_short s (List.mem_of_mem_take hs)⟩, ht, H3.out.2.1.drew⟩

set_option maxRecDepth 100000 in
set_option maxHeartbeats 1000000 in
theorem drawPutTogether_any (a : Option Addr) (n c : Nat) (bs : List Int) (w : World) (hr : RdBy w a n bs) :
    Calls Tryd.prog 30 #[.slice a n c] w fun e w' => ∃ (x : PartsV) (f : Bool), e = .returned (.tuple #[valParts x, .bool f]) ∧ (x.spec.size ≤ 217 ∧ x.gen.size ≤ 17) ∧ Ext w w' := by
  have xb := (Ext.refl w).alloc (.cells #[.string ⟨#[]⟩, .string ⟨#[]⟩] 51)
  go_enter Tryd.func30, Tryd.ntmps30
  go_wp2_with fail
  refine (l01From_any _ _ _ _ _ (hr.ext xb)).mono ?_
  rintro e w1 ⟨g, rfl, hg, hs, x1⟩
  have B1 := Lib.hid ((Box.new w #[.string ⟨#[]⟩, .string ⟨#[]⟩] 51).ext x1)
  have hwg : w.heap.size ≠ g := by simp at hg; omega
  have hgw : w.heap.size ≤ g := by simp at hg; omega
  have H1 := Lib.hid (And.intro hs (xb.trans x1))
  clear hs x1
  go_wp2_with fail
  refine (l01DrawPhrase_any _ _ H1.out.1).mono ?_
  rintro e w2 ⟨t, rfl, ht, hd⟩
  have hg2 := hd.1.lt
  have H2 := Lib.hid (And.intro (B1.out.drew hd hwg) hd)
  clear hd
  go_wp2_with fail
  refine (l01Next_any _ _ _ (H2.out.2.1.ext ((Ext.refl _).alloc _)) (by omega)).mono ?_
  rintro e w3 ⟨z, rfl, hz0, hz1, hd⟩
  obtain ⟨j, rfl⟩ := Int.eq_ofNat_of_zero_le hz0
  have hj : j < 4 := by omega
  have hji : (j : Int) < 4 := by omega
  obtain ⟨u, hc, hu⟩ := Lits.new (n := 4) hd.drew hg2 (by kernel_rfl) rfl j hj
  have H3 := Lib.hid (And.intro ((H2.out.1.ext ((Ext.refl _).alloc _)).drew hd.drew hwg) (H2.out.2.trans (Drew.pre ((Ext.refl _).alloc _) hd.drew)))
  clear hd hz1
  have HW := Lib.hid (And.intro (H3.out.2.1.ext ((Ext.refl _).alloc (.cells #[.string t, .string u] 51))) (And.intro (H3.out.1.ext ((Ext.refl _).alloc (.cells #[.string t, .string u] 51))) (And.intro (Box.new w3 #[.string t, .string u] 51) (draw_ext H1.out.2 H3.out.2 hgw |>.alloc (.cells #[.string t, .string u] 51)))))
  have hg3 := H3.out.2.1.lt
  have hw3 : w.heap.size < w3.heap.size := H3.out.1.lt
  have d0 : _ = some (Value.string t) := HW.out.2.2.1.cell 0
  have d1 : _ = some (Value.string u) := HW.out.2.2.1.cell 1
  have hne : ¬ w3.heap.size = w.heap.size := by omega
  go_wp2
  generalize w3.alloc (.cells #[.string t, .string u] 51) = wb at HW d0 d1 ⊢
  refine wp_region_any (by kernel_rfl) ?_
  try (change wpAny _ _ _ _ _ _ _ (World.drew _))
  refine takeYes 1 17 ?v9 rfl rfl (by kernel_rfl) (by kernel_rfl) (by kernel_rfl) (fun _ _ _ _ h => h) (by kernel_rfl) ?y9 ?r9
  case y9 => intro w; go_simp; first | done | with_reducible rfl
  simp only [Act.put, List.setIfInBounds_toArray, List.set_cons_zero, List.set_cons_succ]
  refine wpAny_ready (rs := [0, 2]) (by kernel_rfl) (by simp) ?_
  refine AllReady.cons rfl (fun K hK => ?_) (AllReady.cons rfl (fun K hK => ?_) AllReady.nil)
  · go_simp
    refine hK _ _ ?_
    clear hK K
    try simp only [Act.put, List.setIfInBounds_toArray, List.set_cons_zero, List.set_cons_succ]
    refine wpAny_ready (rs := [2]) (by kernel_rfl) (by simp) ?_
    refine AllReady.cons rfl (fun K hK => ?_) AllReady.nil
    go_simp
    refine (l01Next_any _ _ _ (HW.out.1.ext (Ext.refl _).drew) (by omega)).mono ?_
    rintro e w4 ⟨y, rfl, hy0, hy1, hd⟩
    have hd4 : Drew wb g w4 := Drew.pre (Ext.refl _).drew hd.drew
    have hb4 := HW.out.2.2.1.drew hd4 (Nat.ne_of_gt hg3)
    have hr4 := HW.out.2.1.drew hd4 hwg
    have e0 : _ = some (Value.string t) := hb4.cell 0
    have e1 : _ = some (Value.string u) := hb4.cell 1
    have a0 : _ = some (Value.string ⟨#[]⟩) := hr4.cell 0
    have a1 : _ = some (Value.string ⟨#[]⟩) := hr4.cell 1
    have f0 := hr4.frozen 0
    have f1 := hr4.frozen 1
    have H4 := Lib.hid (draw_ext HW.out.2.2.2 hd4 hgw)
    clear hd hd4 hb4 hr4 hy1
    go_wp2_with fail
    try simp only [Act.put, List.setIfInBounds_toArray, List.set_cons_zero, List.set_cons_succ]
    refine takeYes 3 19 ?v10 rfl rfl (by kernel_rfl) (by kernel_rfl) (by kernel_rfl) (fun _ _ _ _ h => h) (by kernel_rfl) ?y10 ?r10
    case y10 => intro w; go_simp; first | done | with_reducible rfl
    simp only [Act.put, List.setIfInBounds_toArray, List.set_cons_zero, List.set_cons_succ]
    refine wpAny_ready (rs := [4]) (by kernel_rfl) (by simp) ?_
    refine AllReady.cons rfl (fun K hK => ?_) AllReady.nil
    go_simp
    refine hK _ _ ?_
    clear hK K
    try simp only [Act.put, List.setIfInBounds_toArray, List.set_cons_zero, List.set_cons_succ]
    refine takeYes 5 3 ?v11 rfl rfl (by kernel_rfl) (by kernel_rfl) (by kernel_rfl) (fun _ _ _ _ h => h) (by kernel_rfl) ?y11 ?r11
    case y11 => intro w; go_simp; first | done | with_reducible rfl
    simp only [Act.put, List.setIfInBounds_toArray, List.set_cons_zero, List.set_cons_succ]
    refine wpAny_done (by kernel_rfl) ?_ _
    go_wp2
    exact bodyPost_ret (v := .tuple #[.agg #[.string t, .string u], .bool (y == 0)]) (by simp [results, Tryd.results30, go_sem, a0, a1]) rfl ⟨⟨t, u⟩, _, rfl, ⟨ht, hu⟩, (H4.out.setCell (p := ⟨w.heap.size, 0, none⟩) (Nat.le_refl _) _).setCell (p := ⟨w.heap.size, 1, none⟩) (Nat.le_refl _) _⟩
  · go_simp
    refine (l01Next_any _ _ _ (HW.out.1.ext (Ext.refl _).drew) (by omega)).mono ?_
    rintro e w4 ⟨y, rfl, hy0, hy1, hd⟩
    have hd4 : Drew wb g w4 := Drew.pre (Ext.refl _).drew hd.drew
    have hb4 := HW.out.2.2.1.drew hd4 (Nat.ne_of_gt hg3)
    have hr4 := HW.out.2.1.drew hd4 hwg
    have e0 : _ = some (Value.string t) := hb4.cell 0
    have e1 : _ = some (Value.string u) := hb4.cell 1
    have a0 : _ = some (Value.string ⟨#[]⟩) := hr4.cell 0
    have a1 : _ = some (Value.string ⟨#[]⟩) := hr4.cell 1
    have f0 := hr4.frozen 0
    have f1 := hr4.frozen 1
    have H4 := Lib.hid (draw_ext HW.out.2.2.2 hd4 hgw)
    clear hd hd4 hb4 hr4 hy1
    go_wp2_with fail
    try simp only [Act.put, List.setIfInBounds_toArray, List.set_cons_zero, List.set_cons_succ]
    refine takeYes 3 19 ?v12 rfl rfl (by kernel_rfl) (by kernel_rfl) (by kernel_rfl) (fun _ _ _ _ h => h) (by kernel_rfl) ?y12 ?r12
    case y12 => intro w; go_simp; first | done | with_reducible rfl
    simp only [Act.put, List.setIfInBounds_toArray, List.set_cons_zero, List.set_cons_succ]
    refine wpAny_ready (rs := [0]) (by kernel_rfl) (by simp) ?_
    refine AllReady.cons rfl (fun K hK => ?_) AllReady.nil
    go_simp
    refine hK _ _ ?_
    clear hK K
    try simp only [Act.put, List.setIfInBounds_toArray, List.set_cons_zero, List.set_cons_succ]
    refine wpAny_ready (rs := [4]) (by kernel_rfl) (by simp) ?_
    refine AllReady.cons rfl (fun K hK => ?_) AllReady.nil
    go_simp
    refine hK _ _ ?_
    clear hK K
    try simp only [Act.put, List.setIfInBounds_toArray, List.set_cons_zero, List.set_cons_succ]
    refine takeYes 5 3 ?v13 rfl rfl (by kernel_rfl) (by kernel_rfl) (by kernel_rfl) (fun _ _ _ _ h => h) (by kernel_rfl) ?y13 ?r13
    case y13 => intro w; go_simp; first | done | with_reducible rfl
    simp only [Act.put, List.setIfInBounds_toArray, List.set_cons_zero, List.set_cons_succ]
    refine wpAny_done (by kernel_rfl) ?_ _
    go_wp2
    exact bodyPost_ret (v := .tuple #[.agg #[.string t, .string u], .bool (y == 0)]) (by simp [results, Tryd.results30, go_sem, a0, a1]) rfl ⟨⟨t, u⟩, _, rfl, ⟨ht, hu⟩, (H4.out.setCell (p := ⟨w.heap.size, 0, none⟩) (Nat.le_refl _) _).setCell (p := ⟨w.heap.size, 1, none⟩) (Nat.le_refl _) _⟩

end Go.Proofs.YtfglmoedicijkaaDoor
