/-
  Texts of spans and of names: the program's and the reference's functions.
-/
import Derived.Test.YtajgjccnhippcaaGreatDoorDW
import Derived.Test.YtajgjccnhippcaaGreatDoorNI
import Derived.Test.YtajgjccnhippcaaGreatDoorTK
import Derived.Test.YtajgjccnhippcaaGreatDoorRSC
import Derived.Deep.RegionHeld3
import Derived.Lib.Join
namespace Go.Proofs.YtajgjccnhippcaaGreatDoor
open Go.RowKit

def spanTB (a b : Int) : ByteArray := ⟨(spanT a b).toArray⟩
theorem spanTB_app (a b : Int) : spanTB a b = itoaB a ++ ⟨#[46, 46]⟩ ++ itoaB b := by
  refine eqS.1 ?_
  rw [ByteArray.data_append, ByteArray.data_append, Array.toList_append, Array.toList_append]
  show spanT a b = _
  rw [spanT]
  simp [itoaB]
theorem spanB_bd {x : SpanV} (h : spanB x = true) : (-1000000000000000 ≤ x.from_ ∧ x.from_ ≤ 1000000000000000) ∧ (-1000000000000000 ≤ x.to_ ∧ x.to_ ≤ 1000000000000000) := by
  obtain ⟨h1, h2, _⟩ := spanB_iff.1 h
  omega
/-- The text of a name. -/
def nameT (x : NameV) : List UInt8 := x.text.data.toList ++ 47 :: (x.lang.data.toList ++ 47 :: (Lib.itoa x.status ++ 47 :: spanT x.from_ x.to_))
def nameTB (x : NameV) : ByteArray := ⟨(nameT x).toArray⟩
theorem nameTB_app (x : NameV) : nameTB x = x.text ++ ⟨#[47]⟩ ++ x.lang ++ ⟨#[47]⟩ ++ itoaB x.status ++ ⟨#[47]⟩ ++ spanTB x.from_ x.to_ := by
  refine eqS.1 ?_
  simp only [ByteArray.data_append, Array.toList_append]
  show nameT x = _
  rw [nameT]
  simp [itoaB, spanTB]
theorem nameTB_join (x : NameV) : (⟨(Lib.join ([x.text, x.lang, itoaB x.status, spanTB x.from_ x.to_].map (·.data.toList)) [47]).toArray⟩ : ByteArray) = nameTB x := by
  refine eqS.1 ?_
  show Lib.join ([x.text, x.lang, itoaB x.status, spanTB x.from_ x.to_].map (·.data.toList)) [47] = nameT x
  simp only [List.map_cons, List.map_nil]
  rw [Lib.join_cons]
  simp [Lib.joinTail, nameT, itoaB, spanTB]

set_option maxRecDepth 100000 in
set_option maxHeartbeats 400000 in
theorem spanText_any (x : SpanV) (w : World) (hx : spanB x = true) (ht : TabW w) :
    Calls Tryz.prog 129 #[valSpan x] w fun e w' => e = .returned (.string (spanTB x.from_ x.to_)) ∧ Ext w w' := by
  obtain ⟨⟨h0, h1⟩, h2, h3⟩ := spanB_bd hx
  obtain ⟨x0, x1⟩ := x
  simp only [valSpan] at h0 h1 h2 h3 ⊢
  have HZ := Lib.hid (spanTB_app x0 x1)
  have s0 := itoaB_size (n := x0) (by omega) (by omega)
  have s1 := itoaB_size (n := x1) (by omega) (by omega)
  have p1 : ¬ 9223372036854775807 < (itoaB x0).size + 2 := by omega
  have p2 : ¬ 9223372036854775807 < (itoaB x0).size + 2 + (itoaB x1).size := by omega
  have xb := (Ext.refl w).alloc (.cells #[.int .i64 x0, .int .i64 x1] 60)
  have c0 : _ = some (Value.int .i64 x0) := box_keptG (Ext.refl (w.alloc (.cells #[.int .i64 x0, .int .i64 x1] 60))) 0
  have c1 : _ = some (Value.int .i64 x1) := box_keptG (Ext.refl (w.alloc (.cells #[.int .i64 x0, .int .i64 x1] 60))) 1
  go_enter Tryz.func129, Tryz.ntmps129
  go_wp2
  refine wp_region_held_drew (S := Ext _) (by kernel_rfl) (Ext.refl _).drew (fun hHeld => ?_)
  generalize hwd : World.drew _ = wd at hHeld ⊢
  clear hwd
  refine takeYesH 0 3 ?v1 rfl rfl (by kernel_rfl) (by kernel_rfl) (by kernel_rfl) (fun _ _ _ _ h => h) (by kernel_rfl) hHeld ?y1 ?r1
  case y1 => intro wq hq; go_simp; first | done | with_reducible rfl
  simp only [Act.put, List.setIfInBounds_toArray, List.set_cons_zero, List.set_cons_succ]
  refine takeYesH 1 4 ?v2 rfl rfl (by kernel_rfl) (by kernel_rfl) (by kernel_rfl) (fun _ _ _ _ h => h) (by kernel_rfl) hHeld ?y2 ?r2
  case y2 =>
    intro wq hq
    have z0 : _ = some (Value.int .i64 x0) := box_keptG hq 0
    have z1 : _ = some (Value.int .i64 x1) := box_keptG hq 1
    go_simp
    first | done | with_reducible rfl
  simp only [Act.put, List.setIfInBounds_toArray, List.set_cons_zero, List.set_cons_succ]
  refine takeYesH 4 7 ?v3 rfl rfl (by kernel_rfl) (by kernel_rfl) (by kernel_rfl) (fun _ _ _ _ h => h) (by kernel_rfl) hHeld ?y3 ?r3
  case y3 => intro wq hq; go_simp; first | done | with_reducible rfl
  simp only [Act.put, List.setIfInBounds_toArray, List.set_cons_zero, List.set_cons_succ]
  refine takeYesH 5 8 ?v4 rfl rfl (by kernel_rfl) (by kernel_rfl) (by kernel_rfl) (fun _ _ _ _ h => h) (by kernel_rfl) hHeld ?y4 ?r4
  case y4 =>
    intro wq hq
    have z0 : _ = some (Value.int .i64 x0) := box_keptG hq 0
    have z1 : _ = some (Value.int .i64 x1) := box_keptG hq 1
    go_simp
    first | done | with_reducible rfl
  simp only [Act.put, List.setIfInBounds_toArray, List.set_cons_zero, List.set_cons_succ]
  refine wpAnyH_ready (rs := [2]) (by kernel_rfl) (by simp) ?_
  refine AllReadyH.cons rfl (fun K hK => ?_) AllReadyH.nil
  go_simp
  refine (decimalN_any x0 _ (by omega) (by omega) (ht.ext (xb.trans hHeld))).mono ?_
  rintro e w1 ⟨rfl, e1⟩
  go_wp2_with fail
  refine hK.out _ _ (hHeld.trans e1) (fun hHeld => ?_)
  clear hK K
  try simp only [Act.put, List.setIfInBounds_toArray, List.set_cons_zero, List.set_cons_succ]
  refine takeYesH 3 6 ?v5 rfl rfl (by kernel_rfl) (by kernel_rfl) (by kernel_rfl) (fun _ _ _ _ h => h) (by kernel_rfl) hHeld ?y5 ?r5
  case y5 => intro wq hq; go_simp; first | done | with_reducible rfl
  simp only [Act.put, List.setIfInBounds_toArray, List.set_cons_zero, List.set_cons_succ]
  refine wpAnyH_ready (rs := [6]) (by kernel_rfl) (by simp) ?_
  refine AllReadyH.cons rfl (fun K hK => ?_) AllReadyH.nil
  go_simp
  refine (decimalN_any x1 _ (by omega) (by omega) (ht.ext (xb.trans hHeld))).mono ?_
  rintro e w1 ⟨rfl, e1⟩
  go_wp2_with fail
  refine hK.out _ _ (hHeld.trans e1) (fun hHeld => ?_)
  clear hK K
  try simp only [Act.put, List.setIfInBounds_toArray, List.set_cons_zero, List.set_cons_succ]
  refine takeYesH 7 10 ?v6 rfl rfl (by kernel_rfl) (by kernel_rfl) (by kernel_rfl) (fun _ _ _ _ h => h) (by kernel_rfl) hHeld ?y6 ?r6
  case y6 => intro wq hq; go_simp; first | done | with_reducible rfl
  simp only [Act.put, List.setIfInBounds_toArray, List.set_cons_zero, List.set_cons_succ]
  refine takeYesH 8 2 ?v7 rfl rfl (by kernel_rfl) (by kernel_rfl) (by kernel_rfl) (fun _ _ _ _ h => h) (by kernel_rfl) hHeld ?y7 ?r7
  case y7 => intro wq hq; go_simp; first | done | with_reducible rfl
  simp only [Act.put, List.setIfInBounds_toArray, List.set_cons_zero, List.set_cons_succ]
  refine wpAnyH_done (by kernel_rfl) ?_ _
  go_wp2
  go_ret
  exact ⟨by rw [HZ.out]; simp, xb.trans hHeld⟩

set_option maxRecDepth 100000 in
set_option maxHeartbeats 400000 in
theorem l02Text_any (x : SpanV) (w : World) (hx : spanB x = true) :
    Calls Tryz.prog 132 #[valSpan x] w fun e w' => e = .returned (.string (spanTB x.from_ x.to_)) ∧ Ext w w' := by
  obtain ⟨⟨h0, h1⟩, h2, h3⟩ := spanB_bd hx
  obtain ⟨x0, x1⟩ := x
  simp only [valSpan] at h0 h1 h2 h3 ⊢
  have HZ := Lib.hid (spanTB_app x0 x1)
  have s0 := itoaB_size (n := x0) (by omega) (by omega)
  have s1 := itoaB_size (n := x1) (by omega) (by omega)
  have p1 : ¬ 9223372036854775807 < (itoaB x0).size + 2 := by omega
  have p2 : ¬ 9223372036854775807 < (itoaB x0).size + 2 + (itoaB x1).size := by omega
  have xb := (Ext.refl w).alloc (.cells #[.int .i64 x0, .int .i64 x1] 60)
  have c0 : _ = some (Value.int .i64 x0) := box_keptG (Ext.refl (w.alloc (.cells #[.int .i64 x0, .int .i64 x1] 60))) 0
  have c1 : _ = some (Value.int .i64 x1) := box_keptG (Ext.refl (w.alloc (.cells #[.int .i64 x0, .int .i64 x1] 60))) 1
  go_enter Tryz.func132, Tryz.ntmps132
  go_wp2
  refine wp_region_held_drew (S := Ext _) (by kernel_rfl) (Ext.refl _).drew (fun hHeld => ?_)
  generalize hwd : World.drew _ = wd at hHeld ⊢
  clear hwd
  refine takeYesH 0 3 ?v8 rfl rfl (by kernel_rfl) (by kernel_rfl) (by kernel_rfl) (fun _ _ _ _ h => h) (by kernel_rfl) hHeld ?y8 ?r8
  case y8 => intro wq hq; go_simp; first | done | with_reducible rfl
  simp only [Act.put, List.setIfInBounds_toArray, List.set_cons_zero, List.set_cons_succ]
  refine takeYesH 1 4 ?v9 rfl rfl (by kernel_rfl) (by kernel_rfl) (by kernel_rfl) (fun _ _ _ _ h => h) (by kernel_rfl) hHeld ?y9 ?r9
  case y9 =>
    intro wq hq
    have z0 : _ = some (Value.int .i64 x0) := box_keptG hq 0
    have z1 : _ = some (Value.int .i64 x1) := box_keptG hq 1
    go_simp
    first | done | with_reducible rfl
  simp only [Act.put, List.setIfInBounds_toArray, List.set_cons_zero, List.set_cons_succ]
  refine takeYesH 4 7 ?v10 rfl rfl (by kernel_rfl) (by kernel_rfl) (by kernel_rfl) (fun _ _ _ _ h => h) (by kernel_rfl) hHeld ?y10 ?r10
  case y10 => intro wq hq; go_simp; first | done | with_reducible rfl
  simp only [Act.put, List.setIfInBounds_toArray, List.set_cons_zero, List.set_cons_succ]
  refine takeYesH 5 8 ?v11 rfl rfl (by kernel_rfl) (by kernel_rfl) (by kernel_rfl) (fun _ _ _ _ h => h) (by kernel_rfl) hHeld ?y11 ?r11
  case y11 =>
    intro wq hq
    have z0 : _ = some (Value.int .i64 x0) := box_keptG hq 0
    have z1 : _ = some (Value.int .i64 x1) := box_keptG hq 1
    go_simp
    first | done | with_reducible rfl
  simp only [Act.put, List.setIfInBounds_toArray, List.set_cons_zero, List.set_cons_succ]
  refine wpAnyH_ready (rs := [2]) (by kernel_rfl) (by simp) ?_
  refine AllReadyH.cons rfl (fun K hK => ?_) AllReadyH.nil
  go_simp
  refine (l01NumberN_any x0 _ (by omega) (by omega)).mono ?_
  rintro e w1 ⟨rfl, e1⟩
  go_wp2_with fail
  refine hK.out _ _ (hHeld.trans e1) (fun hHeld => ?_)
  clear hK K
  try simp only [Act.put, List.setIfInBounds_toArray, List.set_cons_zero, List.set_cons_succ]
  refine takeYesH 3 6 ?v12 rfl rfl (by kernel_rfl) (by kernel_rfl) (by kernel_rfl) (fun _ _ _ _ h => h) (by kernel_rfl) hHeld ?y12 ?r12
  case y12 => intro wq hq; go_simp; first | done | with_reducible rfl
  simp only [Act.put, List.setIfInBounds_toArray, List.set_cons_zero, List.set_cons_succ]
  refine wpAnyH_ready (rs := [6]) (by kernel_rfl) (by simp) ?_
  refine AllReadyH.cons rfl (fun K hK => ?_) AllReadyH.nil
  go_simp
  refine (l01NumberN_any x1 _ (by omega) (by omega)).mono ?_
  rintro e w1 ⟨rfl, e1⟩
  go_wp2_with fail
  refine hK.out _ _ (hHeld.trans e1) (fun hHeld => ?_)
  clear hK K
  try simp only [Act.put, List.setIfInBounds_toArray, List.set_cons_zero, List.set_cons_succ]
  refine takeYesH 7 10 ?v13 rfl rfl (by kernel_rfl) (by kernel_rfl) (by kernel_rfl) (fun _ _ _ _ h => h) (by kernel_rfl) hHeld ?y13 ?r13
  case y13 => intro wq hq; go_simp; first | done | with_reducible rfl
  simp only [Act.put, List.setIfInBounds_toArray, List.set_cons_zero, List.set_cons_succ]
  refine takeYesH 8 2 ?v14 rfl rfl (by kernel_rfl) (by kernel_rfl) (by kernel_rfl) (fun _ _ _ _ h => h) (by kernel_rfl) hHeld ?y14 ?r14
  case y14 => intro wq hq; go_simp; first | done | with_reducible rfl
  simp only [Act.put, List.setIfInBounds_toArray, List.set_cons_zero, List.set_cons_succ]
  refine wpAnyH_done (by kernel_rfl) ?_ _
  go_wp2
  go_ret
  exact ⟨by rw [HZ.out]; simp, xb.trans hHeld⟩

theorem join4_any (s0 s1 s2 s3 : ByteArray) (e : TypeId) (W : World) (h : s0.size + s1.size + s2.size + s3.size ≤ 140737488355000) :
    Calls Tryz.prog 127 #[.slice (some ⟨W.heap.size, 0, none⟩) 4 4, .string ⟨#[47]⟩] (W.alloc (.cells #[.string s0, .string s1, .string s2, .string s3] e)) fun x w' => x = .returned (.string ⟨(Lib.join ([s0, s1, s2, s3].map (·.data.toList)) [47]).toArray⟩) ∧ Ext (W.alloc (.cells #[.string s0, .string s1, .string s2, .string s3] e)) w' := by
  refine Tryz.strings_Join W.heap.size 0 4 [s0, s1, s2, s3] ⟨#[47]⟩ _ (fun j x hx => ?_) (by simp) (by simp) (by simp) ?_
  · have hj := (List.getElem?_eq_some_iff.1 hx).1
    simp only [List.length_cons, List.length_nil] at hj
    rcases j with _ | _ | _ | _ | j
    all_goals (try simp at hx; try subst hx; try simp [World.cell?_alloc_at])
    all_goals omega
  · simp only [List.map_cons, List.map_nil, Lib.join_cons]
    have e0 : s0.data.toList.length = s0.size := rfl
    have e1 : s1.data.toList.length = s1.size := rfl
    have e2 : s2.data.toList.length = s2.size := rfl
    have e3 : s3.data.toList.length = s3.size := rfl
    simp only [Lib.joinTail, List.map_cons, List.map_nil, List.flatten_cons, List.flatten_nil, List.length_append, List.length_cons, List.length_nil, e0, e1, e2, e3]
    omega

theorem nameB_parts {x : NameV} (h : nameB x = true) : 0 ≤ x.status ∧ x.status ≤ 2 ∧ spanB ⟨x.from_, x.to_⟩ = true := by
  rw [nameB] at h
  simp only [Bool.and_eq_true] at h
  have := inB_iff.1 h.2.2.1
  exact ⟨this.1, this.2, h.2.2.2⟩

set_option maxRecDepth 100000 in
set_option maxHeartbeats 1000000 in
theorem nameText_any (x : NameV) (w : World) (hx : nameB x = true) (ho : okName x) (ht : TabW w) :
    Calls Tryz.prog 87 #[valName x] w fun e w' => e = .returned (.string (nameTB x)) ∧ Ext w w' := by
  have hx2 := nameB_parts hx
  obtain ⟨x0, x1, x2, x3, x4⟩ := x
  obtain ⟨hb0, hb1, hsp⟩ := hx2
  obtain ⟨ho0, ho1⟩ := ho
  obtain ⟨⟨h0, h1⟩, h2, h3⟩ := spanB_bd hsp
  simp only [valName] at ho0 ho1 hb0 hb1 h0 h1 h2 h3 ⊢
  have HS := Lib.hid hsp
  have HZ := Lib.hid (nameTB_app ⟨x0, x1, x2, x3, x4⟩)
  have HJ := Lib.hid (nameTB_join ⟨x0, x1, x2, x3, x4⟩)
  have s2 := itoaB_size (n := x2) (by omega) (by omega)
  have s3 := itoaB_size (n := x3) (by omega) (by omega)
  have s4 := itoaB_size (n := x4) (by omega) (by omega)
  have s5 : (spanTB x3 x4).size ≤ 44 := by rw [spanTB_app, ByteArray.size_append, ByteArray.size_append]; have : (⟨#[46, 46]⟩ : ByteArray).size = 2 := rfl; omega
  have xb := (Ext.refl w).alloc (.cells #[.string x0, .string x1, .int .i64 x2, .int .i64 x3, .int .i64 x4] 62)
  have c0 : _ = some (Value.string x0) := box_keptG (Ext.refl (w.alloc (.cells #[.string x0, .string x1, .int .i64 x2, .int .i64 x3, .int .i64 x4] 62))) 0
  have c1 : _ = some (Value.string x1) := box_keptG (Ext.refl (w.alloc (.cells #[.string x0, .string x1, .int .i64 x2, .int .i64 x3, .int .i64 x4] 62))) 1
  have c2 : _ = some (Value.int .i64 x2) := box_keptG (Ext.refl (w.alloc (.cells #[.string x0, .string x1, .int .i64 x2, .int .i64 x3, .int .i64 x4] 62))) 2
  have c3 : _ = some (Value.int .i64 x3) := box_keptG (Ext.refl (w.alloc (.cells #[.string x0, .string x1, .int .i64 x2, .int .i64 x3, .int .i64 x4] 62))) 3
  have c4 : _ = some (Value.int .i64 x4) := box_keptG (Ext.refl (w.alloc (.cells #[.string x0, .string x1, .int .i64 x2, .int .i64 x3, .int .i64 x4] 62))) 4
  clear hx hsp
  go_enter Tryz.func87, Tryz.ntmps87
  go_wp2
  refine wp_region_held_drew (S := Ext _) (by kernel_rfl) (Ext.refl _).drew (fun hHeld => ?_)
  generalize hwd : World.drew _ = wd at hHeld ⊢
  clear hwd
  refine takeYesH 0 3 ?v15 rfl rfl (by kernel_rfl) (by kernel_rfl) (by kernel_rfl) (fun _ _ _ _ h => h) (by kernel_rfl) hHeld ?y15 ?r15
  case y15 => intro wq hq; go_simp; first | done | with_reducible rfl
  simp only [Act.put, List.setIfInBounds_toArray, List.set_cons_zero, List.set_cons_succ]
  refine takeYesH 1 4 ?v16 rfl rfl (by kernel_rfl) (by kernel_rfl) (by kernel_rfl) (fun _ _ _ _ h => h) (by kernel_rfl) hHeld ?y16 ?r16
  case y16 =>
    intro wq hq
    have z0 : _ = some (Value.string x0) := box_keptG hq 0
    have z1 : _ = some (Value.string x1) := box_keptG hq 1
    have z2 : _ = some (Value.int .i64 x2) := box_keptG hq 2
    have z3 : _ = some (Value.int .i64 x3) := box_keptG hq 3
    have z4 : _ = some (Value.int .i64 x4) := box_keptG hq 4
    go_simp
    first | done | with_reducible rfl
  simp only [Act.put, List.setIfInBounds_toArray, List.set_cons_zero, List.set_cons_succ]
  refine takeYesH 2 5 ?v17 rfl rfl (by kernel_rfl) (by kernel_rfl) (by kernel_rfl) (fun _ _ _ _ h => h) (by kernel_rfl) hHeld ?y17 ?r17
  case y17 => intro wq hq; go_simp; first | done | with_reducible rfl
  simp only [Act.put, List.setIfInBounds_toArray, List.set_cons_zero, List.set_cons_succ]
  refine takeYesH 3 6 ?v18 rfl rfl (by kernel_rfl) (by kernel_rfl) (by kernel_rfl) (fun _ _ _ _ h => h) (by kernel_rfl) hHeld ?y18 ?r18
  case y18 =>
    intro wq hq
    have z0 : _ = some (Value.string x0) := box_keptG hq 0
    have z1 : _ = some (Value.string x1) := box_keptG hq 1
    have z2 : _ = some (Value.int .i64 x2) := box_keptG hq 2
    have z3 : _ = some (Value.int .i64 x3) := box_keptG hq 3
    have z4 : _ = some (Value.int .i64 x4) := box_keptG hq 4
    go_simp
    first | done | with_reducible rfl
  simp only [Act.put, List.setIfInBounds_toArray, List.set_cons_zero, List.set_cons_succ]
  refine takeYesH 4 7 ?v19 rfl rfl (by kernel_rfl) (by kernel_rfl) (by kernel_rfl) (fun _ _ _ _ h => h) (by kernel_rfl) hHeld ?y19 ?r19
  case y19 => intro wq hq; go_simp; first | done | with_reducible rfl
  simp only [Act.put, List.setIfInBounds_toArray, List.set_cons_zero, List.set_cons_succ]
  refine takeYesH 5 8 ?v20 rfl rfl (by kernel_rfl) (by kernel_rfl) (by kernel_rfl) (fun _ _ _ _ h => h) (by kernel_rfl) hHeld ?y20 ?r20
  case y20 =>
    intro wq hq
    have z0 : _ = some (Value.string x0) := box_keptG hq 0
    have z1 : _ = some (Value.string x1) := box_keptG hq 1
    have z2 : _ = some (Value.int .i64 x2) := box_keptG hq 2
    have z3 : _ = some (Value.int .i64 x3) := box_keptG hq 3
    have z4 : _ = some (Value.int .i64 x4) := box_keptG hq 4
    go_simp
    first | done | with_reducible rfl
  simp only [Act.put, List.setIfInBounds_toArray, List.set_cons_zero, List.set_cons_succ]
  refine takeYesH 7 10 ?v21 rfl rfl (by kernel_rfl) (by kernel_rfl) (by kernel_rfl) (fun _ _ _ _ h => h) (by kernel_rfl) hHeld ?y21 ?r21
  case y21 => intro wq hq; go_simp; first | done | with_reducible rfl
  simp only [Act.put, List.setIfInBounds_toArray, List.set_cons_zero, List.set_cons_succ]
  refine takeYesH 8 11 ?v22 rfl rfl (by kernel_rfl) (by kernel_rfl) (by kernel_rfl) (fun _ _ _ _ h => h) (by kernel_rfl) hHeld ?y22 ?r22
  case y22 =>
    intro wq hq
    have z0 : _ = some (Value.string x0) := box_keptG hq 0
    have z1 : _ = some (Value.string x1) := box_keptG hq 1
    have z2 : _ = some (Value.int .i64 x2) := box_keptG hq 2
    have z3 : _ = some (Value.int .i64 x3) := box_keptG hq 3
    have z4 : _ = some (Value.int .i64 x4) := box_keptG hq 4
    go_simp
    first | done | with_reducible rfl
  simp only [Act.put, List.setIfInBounds_toArray, List.set_cons_zero, List.set_cons_succ]
  refine wpAnyH_ready (rs := [6]) (by kernel_rfl) (by simp) ?_
  refine AllReadyH.cons rfl (fun K hK => ?_) AllReadyH.nil
  go_simp
  refine (decimalN_any x2 _ (by omega) (by omega) (ht.ext (xb.trans hHeld))).mono ?_
  rintro e w1 ⟨rfl, e1⟩
  go_wp2_with fail
  refine hK.out _ _ (hHeld.trans e1) (fun hHeld => ?_)
  clear hK K
  try simp only [Act.put, List.setIfInBounds_toArray, List.set_cons_zero, List.set_cons_succ]
  refine wpAnyH_ready (rs := [9]) (by kernel_rfl) (by simp) ?_
  refine AllReadyH.cons rfl (fun K hK => ?_) AllReadyH.nil
  go_simp
  refine (spanText_any ⟨x3, x4⟩ _ HS.out (ht.ext (xb.trans hHeld))).mono ?_
  rintro e w1 ⟨rfl, e1⟩
  go_wp2_with fail
  refine hK.out _ _ (hHeld.trans e1) (fun hHeld => ?_)
  clear hK K
  try simp only [Act.put, List.setIfInBounds_toArray, List.set_cons_zero, List.set_cons_succ]
  refine wpAnyH_ready (rs := [10]) (by kernel_rfl) (by simp) ?_
  refine AllReadyH.cons rfl (fun K hK => ?_) AllReadyH.nil
  go_simp
  go_wp2_with fail
  refine hK.out _ _ (hHeld.trans ((Ext.refl _).alloc _)) (fun hHeld => ?_)
  clear hK K
  try simp only [Act.put, List.setIfInBounds_toArray, List.set_cons_zero, List.set_cons_succ]
  refine wpAnyH_ready (rs := [11]) (by kernel_rfl) (by simp) ?_
  refine AllReadyH.cons rfl (fun K hK => ?_) AllReadyH.nil
  go_simp
  refine (join4_any x0 x1 (itoaB x2) (spanTB x3 x4) _ _ (by omega)).mono ?_
  rintro e w1 ⟨rfl, e1⟩
  go_wp2_with fail
  refine hK.out _ _ (hHeld.trans e1) (fun hHeld => ?_)
  clear hK K
  try simp only [Act.put, List.setIfInBounds_toArray, List.set_cons_zero, List.set_cons_succ]
  refine takeYesH 12 2 ?v23 rfl rfl (by kernel_rfl) (by kernel_rfl) (by kernel_rfl) (fun _ _ _ _ h => h) (by kernel_rfl) hHeld ?y23 ?r23
  case y23 => intro wq hq; go_simp; first | done | with_reducible rfl
  simp only [Act.put, List.setIfInBounds_toArray, List.set_cons_zero, List.set_cons_succ]
  refine wpAnyH_done (by kernel_rfl) ?_ _
  go_wp2
  go_ret
  exact ⟨by rw [← HJ.out]; rfl, xb.trans hHeld⟩

set_option maxRecDepth 100000 in
set_option maxHeartbeats 1000000 in
theorem l09Text_any (x : NameV) (w : World) (hx : nameB x = true) (ho : okName x) :
    Calls Tryz.prog 89 #[valName x] w fun e w' => e = .returned (.string (nameTB x)) ∧ Ext w w' := by
  have hx2 := nameB_parts hx
  obtain ⟨x0, x1, x2, x3, x4⟩ := x
  obtain ⟨hb0, hb1, hsp⟩ := hx2
  obtain ⟨ho0, ho1⟩ := ho
  obtain ⟨⟨h0, h1⟩, h2, h3⟩ := spanB_bd hsp
  simp only [valName] at ho0 ho1 hb0 hb1 h0 h1 h2 h3 ⊢
  have HS := Lib.hid hsp
  have HZ := Lib.hid (nameTB_app ⟨x0, x1, x2, x3, x4⟩)
  have HJ := Lib.hid (nameTB_join ⟨x0, x1, x2, x3, x4⟩)
  have s2 := itoaB_size (n := x2) (by omega) (by omega)
  have s3 := itoaB_size (n := x3) (by omega) (by omega)
  have s4 := itoaB_size (n := x4) (by omega) (by omega)
  have s5 : (spanTB x3 x4).size ≤ 44 := by rw [spanTB_app, ByteArray.size_append, ByteArray.size_append]; have : (⟨#[46, 46]⟩ : ByteArray).size = 2 := rfl; omega
  have hst : x2 = (x2.toNat : Int) := by omega
  have HST := Lib.hid (show itoaB x2 = decB x2.toNat from itoaB_pos hb0)
  have p1 : ¬ 9223372036854775807 < x0.size + 1 := by omega
  have p2 : ¬ 9223372036854775807 < x0.size + 1 + x1.size := by omega
  have p3 : ¬ 9223372036854775807 < x0.size + 1 + x1.size + 1 := by omega
  have p4 : ¬ 9223372036854775807 < x0.size + 1 + x1.size + 1 + (itoaB x2).size := by omega
  have p5 : ¬ 9223372036854775807 < x0.size + 1 + x1.size + 1 + (itoaB x2).size + 1 := by omega
  have p6 : ¬ 9223372036854775807 < x0.size + 1 + x1.size + 1 + (itoaB x2).size + 1 + (spanTB x3 x4).size := by omega
  have HX2 := Lib.hid hst
  clear hst
  have xb := (Ext.refl w).alloc (.cells #[.string x0, .string x1, .int .i64 x2, .int .i64 x3, .int .i64 x4] 62)
  have c0 : _ = some (Value.string x0) := box_keptG (Ext.refl (w.alloc (.cells #[.string x0, .string x1, .int .i64 x2, .int .i64 x3, .int .i64 x4] 62))) 0
  have c1 : _ = some (Value.string x1) := box_keptG (Ext.refl (w.alloc (.cells #[.string x0, .string x1, .int .i64 x2, .int .i64 x3, .int .i64 x4] 62))) 1
  have c2 : _ = some (Value.int .i64 x2) := box_keptG (Ext.refl (w.alloc (.cells #[.string x0, .string x1, .int .i64 x2, .int .i64 x3, .int .i64 x4] 62))) 2
  have c3 : _ = some (Value.int .i64 x3) := box_keptG (Ext.refl (w.alloc (.cells #[.string x0, .string x1, .int .i64 x2, .int .i64 x3, .int .i64 x4] 62))) 3
  have c4 : _ = some (Value.int .i64 x4) := box_keptG (Ext.refl (w.alloc (.cells #[.string x0, .string x1, .int .i64 x2, .int .i64 x3, .int .i64 x4] 62))) 4
  clear hx hsp
  go_enter Tryz.func89, Tryz.ntmps89
  go_wp2
  refine wp_region_held_drew (S := Ext _) (by kernel_rfl) (Ext.refl _).drew (fun hHeld => ?_)
  generalize hwd : World.drew _ = wd at hHeld ⊢
  clear hwd
  refine takeYesH 0 3 ?v24 rfl rfl (by kernel_rfl) (by kernel_rfl) (by kernel_rfl) (fun _ _ _ _ h => h) (by kernel_rfl) hHeld ?y24 ?r24
  case y24 => intro wq hq; go_simp; first | done | with_reducible rfl
  simp only [Act.put, List.setIfInBounds_toArray, List.set_cons_zero, List.set_cons_succ]
  refine takeYesH 1 4 ?v25 rfl rfl (by kernel_rfl) (by kernel_rfl) (by kernel_rfl) (fun _ _ _ _ h => h) (by kernel_rfl) hHeld ?y25 ?r25
  case y25 =>
    intro wq hq
    have z0 : _ = some (Value.string x0) := box_keptG hq 0
    have z1 : _ = some (Value.string x1) := box_keptG hq 1
    have z2 : _ = some (Value.int .i64 x2) := box_keptG hq 2
    have z3 : _ = some (Value.int .i64 x3) := box_keptG hq 3
    have z4 : _ = some (Value.int .i64 x4) := box_keptG hq 4
    go_simp
    first | done | with_reducible rfl
  simp only [Act.put, List.setIfInBounds_toArray, List.set_cons_zero, List.set_cons_succ]
  refine takeYesH 2 5 ?v26 rfl rfl (by kernel_rfl) (by kernel_rfl) (by kernel_rfl) (fun _ _ _ _ h => h) (by kernel_rfl) hHeld ?y26 ?r26
  case y26 => intro wq hq; go_simp; first | done | with_reducible rfl
  simp only [Act.put, List.setIfInBounds_toArray, List.set_cons_zero, List.set_cons_succ]
  refine takeYesH 3 6 ?v27 rfl rfl (by kernel_rfl) (by kernel_rfl) (by kernel_rfl) (fun _ _ _ _ h => h) (by kernel_rfl) hHeld ?y27 ?r27
  case y27 => intro wq hq; go_simp; first | done | with_reducible rfl
  simp only [Act.put, List.setIfInBounds_toArray, List.set_cons_zero, List.set_cons_succ]
  refine takeYesH 4 7 ?v28 rfl rfl (by kernel_rfl) (by kernel_rfl) (by kernel_rfl) (fun _ _ _ _ h => h) (by kernel_rfl) hHeld ?y28 ?r28
  case y28 =>
    intro wq hq
    have z0 : _ = some (Value.string x0) := box_keptG hq 0
    have z1 : _ = some (Value.string x1) := box_keptG hq 1
    have z2 : _ = some (Value.int .i64 x2) := box_keptG hq 2
    have z3 : _ = some (Value.int .i64 x3) := box_keptG hq 3
    have z4 : _ = some (Value.int .i64 x4) := box_keptG hq 4
    go_simp
    first | done | with_reducible rfl
  simp only [Act.put, List.setIfInBounds_toArray, List.set_cons_zero, List.set_cons_succ]
  refine takeYesH 5 8 ?v29 rfl rfl (by kernel_rfl) (by kernel_rfl) (by kernel_rfl) (fun _ _ _ _ h => h) (by kernel_rfl) hHeld ?y29 ?r29
  case y29 => intro wq hq; go_simp; first | done | with_reducible rfl
  simp only [Act.put, List.setIfInBounds_toArray, List.set_cons_zero, List.set_cons_succ]
  refine takeYesH 6 9 ?v30 rfl rfl (by kernel_rfl) (by kernel_rfl) (by kernel_rfl) (fun _ _ _ _ h => h) (by kernel_rfl) hHeld ?y30 ?r30
  case y30 => intro wq hq; go_simp; first | done | with_reducible rfl
  simp only [Act.put, List.setIfInBounds_toArray, List.set_cons_zero, List.set_cons_succ]
  refine takeYesH 7 10 ?v31 rfl rfl (by kernel_rfl) (by kernel_rfl) (by kernel_rfl) (fun _ _ _ _ h => h) (by kernel_rfl) hHeld ?y31 ?r31
  case y31 => intro wq hq; go_simp; first | done | with_reducible rfl
  simp only [Act.put, List.setIfInBounds_toArray, List.set_cons_zero, List.set_cons_succ]
  refine takeYesH 8 11 ?v32 rfl rfl (by kernel_rfl) (by kernel_rfl) (by kernel_rfl) (fun _ _ _ _ h => h) (by kernel_rfl) hHeld ?y32 ?r32
  case y32 =>
    intro wq hq
    have z0 : _ = some (Value.string x0) := box_keptG hq 0
    have z1 : _ = some (Value.string x1) := box_keptG hq 1
    have z2 : _ = some (Value.int .i64 x2) := box_keptG hq 2
    have z3 : _ = some (Value.int .i64 x3) := box_keptG hq 3
    have z4 : _ = some (Value.int .i64 x4) := box_keptG hq 4
    go_simp
    first | done | with_reducible rfl
  simp only [Act.put, List.setIfInBounds_toArray, List.set_cons_zero, List.set_cons_succ]
  refine takeYesH 12 15 ?v33 rfl rfl (by kernel_rfl) (by kernel_rfl) (by kernel_rfl) (fun _ _ _ _ h => h) (by kernel_rfl) hHeld ?y33 ?r33
  case y33 => intro wq hq; go_simp; first | done | with_reducible rfl
  simp only [Act.put, List.setIfInBounds_toArray, List.set_cons_zero, List.set_cons_succ]
  refine takeYesH 13 16 ?v34 rfl rfl (by kernel_rfl) (by kernel_rfl) (by kernel_rfl) (fun _ _ _ _ h => h) (by kernel_rfl) hHeld ?y34 ?r34
  case y34 =>
    intro wq hq
    have z0 : _ = some (Value.string x0) := box_keptG hq 0
    have z1 : _ = some (Value.string x1) := box_keptG hq 1
    have z2 : _ = some (Value.int .i64 x2) := box_keptG hq 2
    have z3 : _ = some (Value.int .i64 x3) := box_keptG hq 3
    have z4 : _ = some (Value.int .i64 x4) := box_keptG hq 4
    go_simp
    first | done | with_reducible rfl
  simp only [Act.put, List.setIfInBounds_toArray, List.set_cons_zero, List.set_cons_succ]
  refine wpAnyH_ready (rs := [9]) (by kernel_rfl) (by simp) ?_
  refine AllReadyH.cons rfl (fun K hK => ?_) AllReadyH.nil
  go_simp
  rw [show Value.int .i64 x2 = Value.int .i64 (x2.toNat : Int) by rw [← HX2.out]]
  refine (l01DecN_any x2.toNat _ (by omega)).mono ?_
  rintro e w1 ⟨rfl, e1⟩
  rw [← HST.out]
  go_wp2_with fail
  refine hK.out _ _ (hHeld.trans e1) (fun hHeld => ?_)
  clear hK K
  try simp only [Act.put, List.setIfInBounds_toArray, List.set_cons_zero, List.set_cons_succ]
  refine takeYesH 10 13 ?v35 rfl rfl (by kernel_rfl) (by kernel_rfl) (by kernel_rfl) (fun _ _ _ _ h => h) (by kernel_rfl) hHeld ?y35 ?r35
  case y35 => intro wq hq; go_simp; first | done | with_reducible rfl
  simp only [Act.put, List.setIfInBounds_toArray, List.set_cons_zero, List.set_cons_succ]
  refine takeYesH 11 14 ?v36 rfl rfl (by kernel_rfl) (by kernel_rfl) (by kernel_rfl) (fun _ _ _ _ h => h) (by kernel_rfl) hHeld ?y36 ?r36
  case y36 => intro wq hq; go_simp; first | done | with_reducible rfl
  simp only [Act.put, List.setIfInBounds_toArray, List.set_cons_zero, List.set_cons_succ]
  refine wpAnyH_ready (rs := [14]) (by kernel_rfl) (by simp) ?_
  refine AllReadyH.cons rfl (fun K hK => ?_) AllReadyH.nil
  go_simp
  refine (l02Text_any ⟨x3, x4⟩ _ HS.out).mono ?_
  rintro e w1 ⟨rfl, e1⟩
  go_wp2_with fail
  refine hK.out _ _ (hHeld.trans e1) (fun hHeld => ?_)
  clear hK K
  try simp only [Act.put, List.setIfInBounds_toArray, List.set_cons_zero, List.set_cons_succ]
  refine takeYesH 15 18 ?v37 rfl rfl (by kernel_rfl) (by kernel_rfl) (by kernel_rfl) (fun _ _ _ _ h => h) (by kernel_rfl) hHeld ?y37 ?r37
  case y37 => intro wq hq; go_simp; first | done | with_reducible rfl
  simp only [Act.put, List.setIfInBounds_toArray, List.set_cons_zero, List.set_cons_succ]
  refine takeYesH 16 2 ?v38 rfl rfl (by kernel_rfl) (by kernel_rfl) (by kernel_rfl) (fun _ _ _ _ h => h) (by kernel_rfl) hHeld ?y38 ?r38
  case y38 => intro wq hq; go_simp; first | done | with_reducible rfl
  simp only [Act.put, List.setIfInBounds_toArray, List.set_cons_zero, List.set_cons_succ]
  refine wpAnyH_done (by kernel_rfl) ?_ _
  go_wp2
  go_ret
  exact ⟨by rw [HZ.out]; simp, xb.trans hHeld⟩

end Go.Proofs.YtajgjccnhippcaaGreatDoor
