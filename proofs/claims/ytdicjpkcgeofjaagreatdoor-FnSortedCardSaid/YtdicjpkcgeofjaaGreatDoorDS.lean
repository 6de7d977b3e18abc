/-
  The reference's draws of words and phrases: short texts.
-/
import Derived.Test.YtdicjpkcgeofjaaGreatDoorGD
import Derived.Test.YtdicjpkcgeofjaaGreatDoorM0
namespace Go.Proofs.YtdicjpkcgeofjaaGreatDoor
open Go.RowKit

set_option maxRecDepth 100000 in
set_option maxHeartbeats 1000000 in
theorem l01Good_any (g : Nat) (w : World) (hs : Src w g) :
    Calls Tryz.prog 66 #[.pointer (some ⟨g, 0, none⟩)] w (DrewS 51 w g) := by
  have hg := hs.lt
  have HS := Lib.hid hs
  clear hs
  go_enter Tryz.func66, Tryz.ntmps66
  go_wp2_with fail
  refine (l01Next_any _ _ _ (HS.out.ext ((Ext.refl _).alloc _)) (by omega)).mono ?_
  rintro e w1 ⟨x, rfl, hx0, hx1, hd⟩
  have hl := Lits.new (n := 16) hd.drew hg (by kernel_rfl) rfl
  have hD := Drew.pre ((Ext.refl _).alloc _) hd.drew
  have hsz : w.heap.size < w1.heap.size := by have := hd.drew.size; simp at this; omega
  clear hd
  have HL := Lib.hid (And.intro hl hD)
  clear hl hD
  go_wp2
  go_loopw [4, 5] (fun v i wr => ∃ (s : ByteArray) (k : Nat), v = .string s ∧ i = .int .i64 k ∧ s.size + 17 * k ≤ 51 ∧ Lits wr w.heap.size 16 ∧ w.heap.size < wr.heap.size ∧ Drew w g wr) (fun _ i _ => (intOf i).toNat)
  case atStart =>
    obtain ⟨k, rfl⟩ := Int.eq_ofNat_of_zero_le hx0
    exact ⟨⟨#[]⟩, k + 1, rfl, by go_num, by rw [show (⟨#[]⟩ : ByteArray).size = 0 from rfl]; omega, HL.out.1, hsz, HL.out.2⟩
  case round =>
    obtain ⟨s, k, rfl, rfl, hsk, hl, hsz2, hD⟩ := hrel
    by_cases hk : 0 < k
    · have HD := Lib.hid hD
      go_wp2_with fail
      refine (l01Next_any _ _ _ HD.out.1 (by omega)).mono ?_
      rintro e w2 ⟨y, rfl, hy0, hy1, hd⟩
      obtain ⟨j, rfl⟩ := Int.eq_ofNat_of_zero_le hy0
      have hl2 := hl.drew hd.drew hsz2 (by omega)
      obtain ⟨t, hc, ht⟩ := hl2 j (by omega)
      have hj : j < 16 := by omega
      have hnov : ¬ 9223372036854775807 < s.size + t.size := by omega
      have HE := Lib.hid (And.intro hl2 (HD.out.trans hd.drew))
      have hz3 := hd.drew.size
      clear hl hl2 hD hd
      go_wp2
      go_roundw
      case rel => exact ⟨_, k - 1, rfl, by rw [show ((k : Int) - 1) = ((k - 1 : Nat) : Int) from by omega], by rw [ByteArray.size_append]; omega, HE.out.1, by omega, HE.out.2⟩
      case measure => simp [intOf]; omega
    · go_wp2
      go_ret
      exact ⟨_, rfl, by omega, hD⟩

theorem tot_short {ss : List ByteArray} {m : Nat} (h : ∀ s ∈ ss, s.size ≤ m) : tot ss ≤ m * ss.length := by
  induction ss with
  | nil => exact Nat.zero_le _
  | cons x xs ih =>
    have h1 := ih fun s hs => h s (List.mem_cons_of_mem _ hs)
    have h2 := h x (List.mem_cons_self ..)
    rw [tot, List.map_cons, List.sum_cons, ← tot, List.length_cons, Nat.mul_succ]
    omega

set_option maxRecDepth 100000 in
set_option maxHeartbeats 1000000 in
theorem l01GoodPhrase_any (g : Nat) (w : World) (hs : Src w g) :
    Calls Tryz.prog 40 #[.pointer (some ⟨g, 0, none⟩)] w (DrewS 200 w g) := by
  have hg := hs.lt
  have HS := Lib.hid hs
  clear hs
  go_enter Tryz.func40, Tryz.ntmps40
  go_wp2_with fail
  refine (l01Next_any _ _ _ (HS.out.ext ((Ext.refl _).alloc _)) (by omega)).mono ?_
  rintro e w1 ⟨x, rfl, hx0, hx1, hd⟩
  have HL := Lib.hid (And.intro (Drew.pre ((Ext.refl _).alloc _) hd.drew) ((OwnG.lit layS 9 w (Nat.le_refl _) [] #[] rfl (by simp)).drawn hd.grown hg))
  clear hd
  go_wp2
  go_loopw [3, 4] (fun v i wr => ∃ (l : List ByteArray) (a1 : Option Addr) (c1 k : Nat), v = .slice a1 l.length c1 ∧ i = .int .i64 k ∧ l.length + k ≤ 3 ∧ (∀ s ∈ l, s.size ≤ 51) ∧ OwnG layS 9 wr w.heap.size a1 l.length c1 l ∧ Drew w g wr) (fun _ i _ => (intOf i).toNat)
  case atStart =>
    obtain ⟨k, rfl⟩ := Int.eq_ofNat_of_zero_le hx0
    exact ⟨[], _, _, k + 1, rfl, by go_num, by simp; omega, by simp, HL.out.2, HL.out.1⟩
  case round =>
    obtain ⟨l, a1, c1, k, rfl, rfl, hlk, hls, ho, hD⟩ := hrel
    have HB := Lib.hid hls
    clear hls
    by_cases hk : 0 < k
    · go_wp2_with fail
      refine (l01Good_any _ _ hD.1).mono ?_
      rintro e w2 ⟨s, rfl, hsz, hd⟩
      have ho2 := ho.drawn hd.2 hg
      have hsr2 := hd.1
      have hgr2 := (hD.trans hd).2
      clear ho hD hd
      go_wp2_with (first | (at_builtin; refine wpList_appG layS rfl _ _ 24 9 rfl Tryz.underlying24 (.string ⟨#[]⟩) 16 Tryz.info_string rfl (by decide) w.heap.size _ l.length _ l rfl (ho2.alloc _) _ 1 _ [s] rfl (RdG.new1 layS _ _ _ rfl _) (by omega) (by have := hgr2.size; simp; omega) ?_; intro a2 c2 w3 hown hgrow; have HO := Lib.hid (And.intro hown (draw_grow ho2.1 hsr2 hg (Nat.le_refl _) hgr2 hgrow)); clear hown hgrow))
      go_roundw
      case rel =>
        exact ⟨l ++ [s], a2, c2, k - 1, by simp, by rw [show ((k : Int) - 1) = ((k - 1 : Nat) : Int) from by omega], by simp; omega, by
          intro z hz
          rcases List.mem_append.1 hz with h | h
          · exact HB.out z h
          · rw [List.mem_singleton.1 h]; exact hsz, by simpa using HO.out.1, HO.out.2⟩
      case measure => simp [intOf]; omega
    · have htot := tot_short HB.out
      have hrd : RdS wr a1 l.length l := ⟨ho.rd, fun s hs => by have := HB.out s hs; omega⟩
      have hjs := joinS_size (ss := l) l.length (Nat.le_refl _)
      rw [List.take_length] at hjs
      clear ho
      go_wp2_with fail
      refine (l01Words_any _ _ _ _ _ hrd (by omega)).mono ?_
      rintro e w2 ⟨rfl, rfl⟩
      go_wp2
      go_ret
      exact ⟨_, rfl, by omega, hD⟩

set_option maxRecDepth 100000 in
set_option maxHeartbeats 2000000 in
theorem l01Damage_any (g : Nat) (t : ByteArray) (w : World) (hs : Src w g) (ht : t.size ≤ 1000000) :
    Calls Tryz.prog 55 #[.pointer (some ⟨g, 0, none⟩), .string t] w (DrewS (t.size + 17) w g) := by
  have HS := Lib.hid hs
  clear hs
  go_enter Tryz.func55, Tryz.ntmps55
  go_wp2_with fail
  refine (l01Next_any _ _ _ HS.out (by omega)).mono ?_
  rintro e w1 ⟨x, rfl, hx0, hx1, hd⟩
  obtain ⟨k, rfl⟩ := Int.eq_ofNat_of_zero_le hx0
  have hk : k ≤ t.size := by omega
  have H1 := Lib.hid hd.drew
  clear hd hx1
  go_wp2_with fail
  refine (l01Next_any _ _ _ H1.out.1 (by omega)).mono ?_
  rintro e w2 ⟨y, rfl, hy0, hy1, hd⟩
  have H2 := Lib.hid (H1.out.trans hd.drew)
  clear hd
  by_cases y0 : y = 0
  · subst y0
    go_wp2
    go_ret
    exact ⟨_, rfl, by rw [ByteArray.size_extract]; omega, H2.out⟩
  by_cases y1 : y = 1
  · subst y1
    have hg2 := H2.out.1.lt
    go_wp2
    --WALK6
    refine wp_region_any (by kernel_rfl) ?_
    try (change wpAny _ _ _ _ _ _ _ (World.drew _))
    refine takeYes 0 20 ?v1 rfl rfl (by kernel_rfl) (by kernel_rfl) (by kernel_rfl) (fun _ _ _ _ h => h) (by kernel_rfl) ?y1 ?r1
    case y1 => intro w; go_simp; first | done | with_reducible rfl
    simp only [Act.put, List.setIfInBounds_toArray, List.set_cons_zero, List.set_cons_succ]
    refine takeYes 1 21 ?v2 rfl rfl (by kernel_rfl) (by kernel_rfl) (by kernel_rfl) (fun _ _ _ _ h => h) (by kernel_rfl) ?y2 ?r2
    case y2 => intro w; go_simp; first | done | with_reducible rfl
    simp only [Act.put, List.setIfInBounds_toArray, List.set_cons_zero, List.set_cons_succ]
    refine takeYes 2 22 ?v3 rfl rfl (by kernel_rfl) (by kernel_rfl) (by kernel_rfl) (fun _ _ _ _ h => h) (by kernel_rfl) ?y3 ?r3
    case y3 => intro w; go_simp; first | done | with_reducible rfl
    simp only [Act.put, List.setIfInBounds_toArray, List.set_cons_zero, List.set_cons_succ]
    refine takeYes 4 24 ?v4 rfl rfl (by kernel_rfl) (by kernel_rfl) (by kernel_rfl) (fun _ _ _ _ h => h) (by kernel_rfl) ?y4 ?r4
    case y4 => intro w; go_simp; first | done | with_reducible rfl
    simp only [Act.put, List.setIfInBounds_toArray, List.set_cons_zero, List.set_cons_succ]
    refine takeYes 9 29 ?v5 rfl rfl (by kernel_rfl) (by kernel_rfl) (by kernel_rfl) (fun _ _ _ _ h => h) (by kernel_rfl) ?y5 ?r5
    case y5 => intro w; go_simp; first | done | with_reducible rfl
    simp only [Act.put, List.setIfInBounds_toArray, List.set_cons_zero, List.set_cons_succ]
    refine takeYes 10 30 ?v6 rfl rfl (by kernel_rfl) (by kernel_rfl) (by kernel_rfl) (fun _ _ _ _ h => h) (by kernel_rfl) ?y6 ?r6
    case y6 => intro w; go_simp; first | done | with_reducible rfl
    simp only [Act.put, List.setIfInBounds_toArray, List.set_cons_zero, List.set_cons_succ]
    refine takeYes 11 31 ?v7 rfl rfl (by kernel_rfl) (by kernel_rfl) (by kernel_rfl) (fun _ _ _ _ h => h) (by kernel_rfl) ?y7 ?r7
    case y7 => intro w; go_simp; first | done | with_reducible rfl
    simp only [Act.put, List.setIfInBounds_toArray, List.set_cons_zero, List.set_cons_succ]
    refine wpAny_ready (rs := [3, 5]) (by kernel_rfl) (by simp) ?_
    refine AllReady.cons rfl (fun K hK => ?_) (AllReady.cons rfl (fun K hK => ?_) AllReady.nil)
    · go_simp
      refine hK _ _ ?_
      clear hK K
      try (obtain ⟨u, hc0, hu⟩ := short_at (xs := #[.string ⟨#[48]⟩, .string ⟨#[35]⟩, .string ⟨#[46]⟩, .string ⟨#[47]⟩, .string ⟨#[32]⟩, .string ⟨#[97]⟩, .string ⟨#[45]⟩, .string ⟨#[10]⟩]) (by kernel_rfl) (k := j) hj; (have hc : (w3.alloc (.cells #[.string ⟨#[48]⟩, .string ⟨#[35]⟩, .string ⟨#[46]⟩, .string ⟨#[47]⟩, .string ⟨#[32]⟩, .string ⟨#[97]⟩, .string ⟨#[45]⟩, .string ⟨#[10]⟩] 9)).cell? ⟨w3.heap.size, j, none⟩ = some (.string u) := (World.cell?_alloc_at _ _ _ _ rfl).trans hc0); (have p1 : ¬ 9223372036854775807 < k + u.size := by omega); (have p2 : ¬ 9223372036854775807 < k + u.size + (t.size - k) := by omega))
      try simp only [Act.put, List.setIfInBounds_toArray, List.set_cons_zero, List.set_cons_succ]
      refine wpAny_ready (rs := [5]) (by kernel_rfl) (by simp) ?_
      refine AllReady.cons rfl (fun K hK => ?_) AllReady.nil
      go_simp
      refine (l01Next_any _ _ _ (by first | exact (H2.out.1.ext (Ext.refl _).drew) | exact (H2.out.1.ext ((Ext.refl _).drew.alloc _)) | exact (H2.out.1.ext ((Ext.refl _).alloc _).drew)) (by omega)).mono ?_
      rintro e w3 ⟨z, rfl, hz0, hz1, hd3⟩
      obtain ⟨j, rfl⟩ := Int.eq_ofNat_of_zero_le hz0
      have hj : j < 8 := by omega
      have hji : (j : Int) < 8 := by omega
      have hd4 : Drew w2 g w3 := by first | exact Drew.pre (Ext.refl _).drew hd3.drew | exact Drew.pre ((Ext.refl _).alloc _).drew hd3.drew
      have H4 := Lib.hid (H2.out.trans hd4)
      clear hd4
      try (obtain ⟨u, hc, hu⟩ := Lits.new (n := 8) (Drew.pre (Ext.refl _).drew hd3.drew) hg2 (by kernel_rfl) rfl j hj; (have p1 : ¬ 9223372036854775807 < k + u.size := by omega); (have p2 : ¬ 9223372036854775807 < k + u.size + (t.size - k) := by omega))
      clear hd3 hz1
      go_wp2_with fail
      try simp only [Act.put, List.setIfInBounds_toArray, List.set_cons_zero, List.set_cons_succ]
      refine takeYes 6 26 ?v8 rfl rfl (by kernel_rfl) (by kernel_rfl) (by kernel_rfl) (fun _ _ _ _ h => h) (by kernel_rfl) ?y8 ?r8
      case y8 => intro w; go_simp; first | done | with_reducible rfl
      simp only [Act.put, List.setIfInBounds_toArray, List.set_cons_zero, List.set_cons_succ]
      refine wpAny_ready (rs := [7]) (by kernel_rfl) (by simp) ?_
      refine AllReady.cons rfl (fun K hK => ?_) AllReady.nil
      go_simp
      refine hK _ _ ?_
      clear hK K
      try simp only [Act.put, List.setIfInBounds_toArray, List.set_cons_zero, List.set_cons_succ]
      refine takeYes 8 28 ?v9 rfl rfl (by kernel_rfl) (by kernel_rfl) (by kernel_rfl) (fun _ _ _ _ h => h) (by kernel_rfl) ?y9 ?r9
      case y9 => intro w; go_simp; first | done | with_reducible rfl
      simp only [Act.put, List.setIfInBounds_toArray, List.set_cons_zero, List.set_cons_succ]
      refine takeYes 12 32 ?v10 rfl rfl (by kernel_rfl) (by kernel_rfl) (by kernel_rfl) (fun _ _ _ _ h => h) (by kernel_rfl) ?y10 ?r10
      case y10 => intro w; go_simp; first | done | with_reducible rfl
      simp only [Act.put, List.setIfInBounds_toArray, List.set_cons_zero, List.set_cons_succ]
      refine takeYes 13 4 ?v11 rfl rfl (by kernel_rfl) (by kernel_rfl) (by kernel_rfl) (fun _ _ _ _ h => h) (by kernel_rfl) ?y11 ?r11
      case y11 => intro w; go_simp; first | done | with_reducible rfl
      simp only [Act.put, List.setIfInBounds_toArray, List.set_cons_zero, List.set_cons_succ]
      refine wpAny_done (by kernel_rfl) ?_ _
      go_wp2
      go_ret
      exact ⟨_, rfl, by rw [ByteArray.size_append, ByteArray.size_append, ByteArray.size_extract, ByteArray.size_extract]; omega, by first | exact H4.out | exact H4.out.ext ((Ext.refl _).alloc _) | exact H4.out.ext (Ext.refl _).drew | exact H4.out.ext ((Ext.refl _).alloc _).drew⟩
    · go_simp
      refine (l01Next_any _ _ _ (by first | exact (H2.out.1.ext (Ext.refl _).drew) | exact (H2.out.1.ext ((Ext.refl _).drew.alloc _)) | exact (H2.out.1.ext ((Ext.refl _).alloc _).drew)) (by omega)).mono ?_
      rintro e w3 ⟨z, rfl, hz0, hz1, hd3⟩
      obtain ⟨j, rfl⟩ := Int.eq_ofNat_of_zero_le hz0
      have hj : j < 8 := by omega
      have hji : (j : Int) < 8 := by omega
      have hd4 : Drew w2 g w3 := by first | exact Drew.pre (Ext.refl _).drew hd3.drew | exact Drew.pre ((Ext.refl _).alloc _).drew hd3.drew
      have H4 := Lib.hid (H2.out.trans hd4)
      clear hd4
      try (obtain ⟨u, hc, hu⟩ := Lits.new (n := 8) (Drew.pre (Ext.refl _).drew hd3.drew) hg2 (by kernel_rfl) rfl j hj; (have p1 : ¬ 9223372036854775807 < k + u.size := by omega); (have p2 : ¬ 9223372036854775807 < k + u.size + (t.size - k) := by omega))
      clear hd3 hz1
      go_wp2_with fail
      try simp only [Act.put, List.setIfInBounds_toArray, List.set_cons_zero, List.set_cons_succ]
      refine wpAny_ready (rs := [3]) (by kernel_rfl) (by simp) ?_
      refine AllReady.cons rfl (fun K hK => ?_) AllReady.nil
      go_simp
      refine hK _ _ ?_
      clear hK K
      try (obtain ⟨u, hc0, hu⟩ := short_at (xs := #[.string ⟨#[48]⟩, .string ⟨#[35]⟩, .string ⟨#[46]⟩, .string ⟨#[47]⟩, .string ⟨#[32]⟩, .string ⟨#[97]⟩, .string ⟨#[45]⟩, .string ⟨#[10]⟩]) (by kernel_rfl) (k := j) hj; (have hc : (w3.alloc (.cells #[.string ⟨#[48]⟩, .string ⟨#[35]⟩, .string ⟨#[46]⟩, .string ⟨#[47]⟩, .string ⟨#[32]⟩, .string ⟨#[97]⟩, .string ⟨#[45]⟩, .string ⟨#[10]⟩] 9)).cell? ⟨w3.heap.size, j, none⟩ = some (.string u) := (World.cell?_alloc_at _ _ _ _ rfl).trans hc0); (have p1 : ¬ 9223372036854775807 < k + u.size := by omega); (have p2 : ¬ 9223372036854775807 < k + u.size + (t.size - k) := by omega))
      try simp only [Act.put, List.setIfInBounds_toArray, List.set_cons_zero, List.set_cons_succ]
      refine takeYes 6 26 ?v12 rfl rfl (by kernel_rfl) (by kernel_rfl) (by kernel_rfl) (fun _ _ _ _ h => h) (by kernel_rfl) ?y12 ?r12
      case y12 => intro w; go_simp; first | done | with_reducible rfl
      simp only [Act.put, List.setIfInBounds_toArray, List.set_cons_zero, List.set_cons_succ]
      refine wpAny_ready (rs := [7]) (by kernel_rfl) (by simp) ?_
      refine AllReady.cons rfl (fun K hK => ?_) AllReady.nil
      go_simp
      refine hK _ _ ?_
      clear hK K
      try simp only [Act.put, List.setIfInBounds_toArray, List.set_cons_zero, List.set_cons_succ]
      refine takeYes 8 28 ?v13 rfl rfl (by kernel_rfl) (by kernel_rfl) (by kernel_rfl) (fun _ _ _ _ h => h) (by kernel_rfl) ?y13 ?r13
      case y13 => intro w; go_simp; first | done | with_reducible rfl
      simp only [Act.put, List.setIfInBounds_toArray, List.set_cons_zero, List.set_cons_succ]
      refine takeYes 12 32 ?v14 rfl rfl (by kernel_rfl) (by kernel_rfl) (by kernel_rfl) (fun _ _ _ _ h => h) (by kernel_rfl) ?y14 ?r14
      case y14 => intro w; go_simp; first | done | with_reducible rfl
      simp only [Act.put, List.setIfInBounds_toArray, List.set_cons_zero, List.set_cons_succ]
      refine takeYes 13 4 ?v15 rfl rfl (by kernel_rfl) (by kernel_rfl) (by kernel_rfl) (fun _ _ _ _ h => h) (by kernel_rfl) ?y15 ?r15
      case y15 => intro w; go_simp; first | done | with_reducible rfl
      simp only [Act.put, List.setIfInBounds_toArray, List.set_cons_zero, List.set_cons_succ]
      refine wpAny_done (by kernel_rfl) ?_ _
      go_wp2
      go_ret
      exact ⟨_, rfl, by rw [ByteArray.size_append, ByteArray.size_append, ByteArray.size_extract, ByteArray.size_extract]; omega, by first | exact H4.out | exact H4.out.ext ((Ext.refl _).alloc _) | exact H4.out.ext (Ext.refl _).drew | exact H4.out.ext ((Ext.refl _).alloc _).drew⟩
    --END6
  by_cases y2 : y = 2
  · subst y2
    by_cases hkt : k < t.size
    · have hki : (k : Int) < t.size := by omega
      go_wp2
      go_quiet (fail)
      go_wp2
      go_ret
      exact ⟨_, rfl, by rw [ByteArray.size_append, ByteArray.size_extract, ByteArray.size_extract]; omega, H2.out.ext ((Still.refl _).drewN _).ext⟩
    · go_wp2
      go_ret
      exact ⟨_, rfl, by omega, H2.out⟩
  · go_wp2
    go_ret
    exact ⟨_, rfl, by omega, H2.out⟩

set_option maxRecDepth 100000 in
set_option maxHeartbeats 1000000 in
theorem l01DrawPhrase_any (g : Nat) (w : World) (hs : Src w g) :
    Calls Tryz.prog 32 #[.pointer (some ⟨g, 0, none⟩)] w (DrewS 217 w g) := by
  have HS := Lib.hid hs
  clear hs
  go_enter Tryz.func32, Tryz.ntmps32
  go_wp2_with fail
  refine (l01GoodPhrase_any _ _ HS.out).mono ?_
  rintro e w1 ⟨t, rfl, htz, hd⟩
  have H1 := Lib.hid hd
  clear hd
  go_wp2_with fail
  refine (l01Next_any _ _ _ H1.out.1 (by omega)).mono ?_
  rintro e w2 ⟨y, rfl, hy0, hy1, hd⟩
  have H2 := Lib.hid (H1.out.trans hd.drew)
  clear hd
  have hg2 := H2.out.1.lt
  by_cases y0 : y = 0
  · subst y0
    go_wp2_with fail
    refine (l01Damage_any _ _ _ H2.out.1 (by omega)).mono ?_
    rintro e w3 ⟨s, rfl, hsz, hd⟩
    have H3 := Lib.hid (H2.out.trans hd)
    clear hd
    go_wp2
    go_ret
    exact ⟨_, rfl, by omega, H3.out⟩
  by_cases y1 : y = 1
  · subst y1
    go_wp2_with fail
    refine (l01Next_any _ _ _ (H2.out.1.ext ((Ext.refl _).alloc _)) (by omega)).mono ?_
    rintro e w3 ⟨z, rfl, hz0, hz1, hd⟩
    obtain ⟨j, rfl⟩ := Int.eq_ofNat_of_zero_le hz0
    have hj : j < 5 := by omega
    have hji : (j : Int) < 5 := by omega
    obtain ⟨u, hc, hu⟩ := Lits.new (n := 5) hd.drew hg2 (by kernel_rfl) rfl j hj
    have H3 := Lib.hid (H2.out.trans (Drew.pre ((Ext.refl _).alloc _) hd.drew))
    clear hd hz1
    go_wp2
    go_ret
    exact ⟨_, rfl, by omega, H3.out⟩
  · go_wp2
    go_ret
    exact ⟨_, rfl, by omega, H2.out⟩

end Go.Proofs.YtdicjpkcgeofjaaGreatDoor
