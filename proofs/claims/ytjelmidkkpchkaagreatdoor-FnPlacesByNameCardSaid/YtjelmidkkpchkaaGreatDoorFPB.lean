/-
  FnPlacesByName returns true for every code: the walk.
-/
import Derived.Test.YtjelmidkkpchkaaGreatDoorPH
import Derived.Test.YtjelmidkkpchkaaGreatDoorPBL
import Derived.Test.YtjelmidkkpchkaaGreatDoorKO
import Derived.Test.YtjelmidkkpchkaaGreatDoorNM
import Derived.Test.YtjelmidkkpchkaaGreatDoorNO
import Derived.Test.YtjelmidkkpchkaaGreatDoorFQ
import Derived.Test.YtjelmidkkpchkaaGreatDoorPI
import Derived.Test.YtjelmidkkpchkaaGreatDoorM3
namespace Go.Proofs.YtjelmidkkpchkaaGreatDoor.fnPlacesByName
open Go.ChangeShapes Go.WideShapes Go.ChangeAt Go.RowKit

theorem map_ok {w : World} {B : Nat} {ps : List Pl} (h : ∀ p ∈ ps, OkP w B p) : ∀ x ∈ ps.map Pl.x, okPl x := fun x hx => by
  obtain ⟨p, hp, rfl⟩ := List.mem_map.1 hx
  exact (h p hp).2
theorem noV_size {xs : List PlaceV} {s : ByteArray} {ls : List ByteArray} {y : Int} (h : ∀ x ∈ xs, okPl x) : (noV xs s ls y).size ≤ 217 := by
  rw [noV]
  by_cases hc : codeP xs (wordB s && langsB ls) y = 0 ∧ fpB xs s = true
  · rw [if_pos hc]
    obtain ⟨hlt, _⟩ := fpB_at hc.2
    have hok := h _ (nthPlace_mem hlt)
    generalize nthPlace xs (fpI xs s) = x at hok
    by_cases hb : bestR x.names ls y < 0
    · rw [noT_code hb]; exact Nat.le_trans hok.1 (by decide)
    · obtain ⟨i, hi, e, _⟩ := bestR_used (by omega : 0 ≤ bestR x.names ls y)
      rw [noT_name e]
      exact (hok.2.1 _ (nthName_mem hi)).1
  · rw [if_neg hc]; decide

set_option maxRecDepth 100000 in
set_option maxHeartbeats 8000000 in
theorem walk (a_code : Option Addr) (n_code c_code : Nat) (z_code : List Int) (w : World) (hi_code : InBy w a_code n_code z_code) (hmax : MaxW w) :
    Calls Tryz.prog 3 #[.slice a_code n_code c_code] w fun e w' => e = .returned (.bool true) ∧ Ext w w' := by
  by_cases hbig : (4096 : Int) < n_code
  · go_enter Tryz.func3, Tryz.ntmps3
    go_wp2_with (go_at_call 5; refine (big_any _ _ _ _).mono ?_; rintro e w' ⟨rfl, rfl⟩)
    go_ret
    exact ⟨rfl, Ext.refl _⟩
  have hr := hi_code.rdBy (by omega)
  clear hi_code
  go_enter Tryz.func3, Tryz.ntmps3
  go_wp2_with (go_at_call 5; refine (big_any _ _ _ _).mono ?_; rintro e w' ⟨rfl, rfl⟩)
  clear hbig
  refine (drawPlacesNamed_any _ _ _ _ _ hr).mono ?_
  rintro e w1 ⟨a1, c1, ps, s, y, rfl, _, hs, o1, x1⟩
  have X := x1
  have hs2 : s.size ≤ 1073741824 := by omega
  have r1 := o1.rd
  have hcap1 := o1.cap
  have hsz1 := map_ok o1.2
  clear o1
  generalize ps.map Pl.x = xs at r1 hsz1
  generalize ps.length = n1 at r1 hcap1 ⊢
  clear hsz1
  go_wp2_with fail
  refine (implPlacesNamed_any _ _ _ _ _ _ _ r1 hcap1 hs2 (hmax.ext X)).mono ?_
  rintro e w2 ⟨v2, rfl, a2, n2, c2, rfl, _, o2, x2⟩
  replace r1 := r1.ext x2
  replace X := X.trans x2
  have r2 := o2.rd
  clear o2
  go_wp2_with fail
  refine (specPlacesNamed_any _ _ _ _ _ _ _ r1 hs2).mono ?_
  rintro e w3 ⟨v3, rfl, a3, n3, c3, rfl, _, o3, x3⟩
  replace r1 := r1.ext x3
  replace r2 := r2.ext x3
  replace X := X.trans x3
  have r3 := o3.rd
  clear o3
  obtain rfl : n2 = n3 := r2.len.symm.trans r3.len
  clear hs hs2
  go_wp2_with fail
  refine (drawPlacesOfKind_any _ _ _ _ _ (hr.ext X)).mono ?_
  rintro e w4 ⟨a4, c4, qs, a5, n5, c5, zs, cl, z, rfl, _, _, o4, t5, x4⟩
  replace r1 := r1.ext x4
  replace r2 := r2.ext x4
  replace r3 := r3.ext x4
  replace X := X.trans x4
  have r4 := o4.rd
  have hcap4 := o4.cap
  have hsz4 := map_ok o4.2
  clear o4
  generalize qs.map Pl.x = ys at r4 hsz4
  generalize qs.length = n4 at r4 hcap4 ⊢
  clear hsz4
  go_wp2_with fail
  refine (implPlacesOfKind_any _ _ _ _ _ _ _ _ _ _ _ r4 hcap4 t5 (hmax.ext X)).mono ?_
  rintro e w5 ⟨v5, rfl, a6, n6, c6, rfl, _, o5, x5⟩
  replace r1 := r1.ext x5
  replace r2 := r2.ext x5
  replace r3 := r3.ext x5
  replace r4 := r4.ext x5
  replace t5 := t5.ext x5
  replace X := X.trans x5
  have r5 := o5.rd
  clear o5
  go_wp2_with fail
  refine (specPlacesOfKind_any _ _ _ _ _ _ _ _ _ _ _ r4 t5).mono ?_
  rintro e w6 ⟨v6, rfl, a7, n7, c7, rfl, _, o6, x6⟩
  replace r1 := r1.ext x6
  replace r2 := r2.ext x6
  replace r3 := r3.ext x6
  replace r4 := r4.ext x6
  replace t5 := t5.ext x6
  replace r5 := r5.ext x6
  replace X := X.trans x6
  clear t5
  have r6 := o6.rd
  clear o6
  obtain rfl : n6 = n7 := r5.len.symm.trans r6.len
  go_wp2_with fail
  refine (drawNameOf_any _ _ _ _ _ (hr.ext X)).mono ?_
  rintro e w7 ⟨a8, c8, ts, u, a9, c9, ls, z2, rfl, _, hu, o7, t9, x7⟩
  replace r1 := r1.ext x7
  replace r2 := r2.ext x7
  replace r3 := r3.ext x7
  replace r4 := r4.ext x7
  replace r5 := r5.ext x7
  replace r6 := r6.ext x7
  replace X := X.trans x7
  have hu2 : u.size ≤ 1073741824 := by omega
  have r7 := o7.rd
  have hcap7 := o7.cap
  have hsz7 := map_ok o7.2
  clear o7
  generalize ts.map Pl.x = us at r7 hsz7
  generalize ts.length = n8 at r7 hcap7 ⊢
  generalize ls.length = n9 at t9 ⊢
  go_wp2_with fail
  refine (implNameOf_any _ _ _ _ _ _ _ _ _ _ _ r7 hcap7 hu2 t9 (hmax.ext X)).mono ?_
  rintro e w8 ⟨rfl, x8⟩
  replace r1 := r1.ext x8
  replace r2 := r2.ext x8
  replace r3 := r3.ext x8
  replace r4 := r4.ext x8
  replace r5 := r5.ext x8
  replace r6 := r6.ext x8
  replace r7 := r7.ext x8
  replace t9 := t9.ext x8
  replace X := X.trans x8
  go_wp2_with fail
  refine (specNameOf_any _ _ _ _ _ _ _ _ _ _ _ r7 hu2 t9).mono ?_
  rintro e w9 ⟨rfl, x9⟩
  replace r1 := r1.ext x9
  replace r2 := r2.ext x9
  replace r3 := r3.ext x9
  replace r4 := r4.ext x9
  replace r5 := r5.ext x9
  replace r6 := r6.ext x9
  replace r7 := r7.ext x9
  replace t9 := t9.ext x9
  replace X := X.trans x9
  clear t9
  have hnv : (noV us u ls z2).size ≤ 1073741824 := Nat.le_trans (noV_size hsz7) (by decide)
  have HN := Lib.hid (fun (h : noC us u ls z2 = 0) (hne : noV us u ls z2 ≠ u) => name_in h hne)
  generalize noV us u ls z2 = nv at hnv HN ⊢
  generalize noC us u ls z2 = nc at HN ⊢
  clear hsz7 hu hu2
  go_wp2_with fail
  refine (drawFindPlace_any _ _ _ _ _ (hr.ext X)).mono ?_
  rintro e w10 ⟨a10, c10, fs, f, rfl, _, hf, o10, x10⟩
  replace r1 := r1.ext x10
  replace r2 := r2.ext x10
  replace r3 := r3.ext x10
  replace r4 := r4.ext x10
  replace r5 := r5.ext x10
  replace r6 := r6.ext x10
  replace r7 := r7.ext x10
  replace X := X.trans x10
  have hf2 : f.size ≤ 1073741824 := by omega
  have r10 := o10.rd
  have hcap10 := o10.cap
  have hsz10 := map_ok o10.2
  clear o10
  generalize fs.map Pl.x = gs at r10 hsz10
  generalize fs.length = n10 at r10 hcap10 ⊢
  clear hsz10
  go_wp2_with fail
  refine (implFindPlace_any _ _ _ _ _ _ r10 hcap10 hf2 (hmax.ext X)).mono ?_
  rintro e w11 ⟨rfl, x11⟩
  replace r1 := r1.ext x11
  replace r2 := r2.ext x11
  replace r3 := r3.ext x11
  replace r4 := r4.ext x11
  replace r5 := r5.ext x11
  replace r6 := r6.ext x11
  replace r7 := r7.ext x11
  replace r10 := r10.ext x11
  replace X := X.trans x11
  go_wp2_with fail
  refine (specFindPlace_any _ _ _ _ _ _ r10 hf2).mono ?_
  rintro e w12 ⟨rfl, x12⟩
  replace r1 := r1.ext x12
  replace r2 := r2.ext x12
  replace r3 := r3.ext x12
  replace r4 := r4.ext x12
  replace r5 := r5.ext x12
  replace r6 := r6.ext x12
  replace r7 := r7.ext x12
  replace r10 := r10.ext x12
  replace X := X.trans x12
  clear r10
  clear hf hf2 hcap10
  go_wp2_with fail
  refine (likeTexts_same _ _ _ _ _ _ _ r2 r3).mono ?_
  rintro e w13 ⟨rfl, s13⟩
  replace r1 := r1.ext s13.ext
  replace r2 := r2.ext s13.ext
  replace r3 := r3.ext s13.ext
  replace r4 := r4.ext s13.ext
  replace r5 := r5.ext s13.ext
  replace r6 := r6.ext s13.ext
  replace r7 := r7.ext s13.ext
  replace X := X.trans s13.ext
  clear r3
  go_wp2_with fail
  refine (likeTexts_same _ _ _ _ _ _ _ r5 r6).mono ?_
  rintro e w14 ⟨rfl, s14⟩
  replace r1 := r1.ext s14.ext
  replace r2 := r2.ext s14.ext
  replace r4 := r4.ext s14.ext
  replace r5 := r5.ext s14.ext
  replace r6 := r6.ext s14.ext
  replace r7 := r7.ext s14.ext
  replace X := X.trans s14.ext
  clear r6
  cases ha : (nc == 0)
  · clear r7
    cases hb : (okC ys zs cl z == 0)
    · clear r4 r5
      cases hc : (codeP xs (phraseB s) y == 0)
      · go_wp2
        go_ret
        exact ⟨rfl, X⟩
      · have HC := Lib.hid (fun k (hk : k < (nmL xs s y).length) => named_in (by simpa using hc) hk)
        have r4 := r1
        have r5 := r2
        go_wp2_with fail
        refine (implPlacesIn_any _ _ _ _ _ _ r1 hcap1 (hmax.ext X)).mono ?_
        rintro e wp ⟨vp, rfl, ap, np, cp, rfl, _, op, xp⟩
        have rp := op.rd
        clear op
        replace r1 := r1.ext xp
        replace r2 := r2.ext xp
        replace r4 := r4.ext xp
        replace r5 := r5.ext xp
        replace X := X.trans xp
        have HRc := Lib.hid (And.intro r1 (And.intro r2 (And.intro r4 (And.intro r5 (And.intro X rp)))))
        have hlnc := r2.len
        have hlmc := r2.le
        clear r1 r2 r4 r5 X rp xp
        go_wp2
        go_loopw [39] (fun i wr => ∃ k : Nat, k ≤ n2 ∧ i = .int .i64 k ∧ Ext wp wr) (fun i _ => n2 - (intOf i).toNat)
        case atStart => exact ⟨0, Nat.zero_le _, rfl, Ext.refl _⟩
        case round =>
          obtain ⟨k, hk, rfl, hx⟩ := hrel
          by_cases hlt : k < n2
          · obtain ⟨b2, o2, ea, hbb, hA2⟩ := (HRc.out.2.1.ext hx).at (by omega)
            have hck := hA2 k hlt
            subst ea
            have hki : (k : Int) < n2 := by omega
            have HQ := Lib.hid (HC.out k (by omega))
            clear hA2
            rw [HQ.out.1]
            go_wp2_with fail
            refine (hasText_any _ _ _ _ _ _ (HRc.out.2.2.2.2.2.ext hx)).mono ?_
            rintro e w21 ⟨rfl, rfl⟩
            rw [HQ.out.2]
            clear hck
            go_wp2
            go_roundw
            case rel => exact ⟨k + 1, by omega, by go_num, hx⟩
            case measure => simp [intOf]; omega
          · have r1 := HRc.out.1.ext hx
            have r2 := HRc.out.2.1.ext hx
            have X := HRc.out.2.2.2.2.1.trans hx
            clear HRc hx
            go_wp2
            go_ret
            exact ⟨rfl, X⟩
    · have HB := Lib.hid (fun k (hk : k < (okL ys zs cl z).length) => kind_in (by simpa using hb) hk)
      go_wp2_with fail
      refine (implPlacesIn_any _ _ _ _ _ _ r4 hcap4 (hmax.ext X)).mono ?_
      rintro e wp ⟨vp, rfl, ap, np, cp, rfl, _, op, xp⟩
      have rp := op.rd
      clear op
      replace r1 := r1.ext xp
      replace r2 := r2.ext xp
      replace r4 := r4.ext xp
      replace r5 := r5.ext xp
      replace X := X.trans xp
      have HRb := Lib.hid (And.intro r1 (And.intro r2 (And.intro r4 (And.intro r5 (And.intro X rp)))))
      have hlnb := r5.len
      have hlmb := r5.le
      clear r1 r2 r4 r5 X rp xp
      go_wp2
      go_loopw [36] (fun i wr => ∃ k : Nat, k ≤ n6 ∧ i = .int .i64 k ∧ Ext wp wr) (fun i _ => n6 - (intOf i).toNat)
      case atStart => exact ⟨0, Nat.zero_le _, rfl, Ext.refl _⟩
      case round =>
        obtain ⟨k, hk, rfl, hx⟩ := hrel
        by_cases hlt : k < n6
        · obtain ⟨b2, o2, ea, hbb, hA2⟩ := (HRb.out.2.2.2.1.ext hx).at (by omega)
          have hck := hA2 k hlt
          subst ea
          have hki : (k : Int) < n6 := by omega
          have HQ := Lib.hid (HB.out k (by omega))
          clear hA2
          rw [HQ.out.1]
          go_wp2_with fail
          refine (hasText_any _ _ _ _ _ _ (HRb.out.2.2.2.2.2.ext hx)).mono ?_
          rintro e w21 ⟨rfl, rfl⟩
          rw [HQ.out.2]
          clear hck
          go_wp2
          go_roundw
          case rel => exact ⟨k + 1, by omega, by go_num, hx⟩
          case measure => simp [intOf]; omega
        · have r1 := HRb.out.1.ext hx
          have r2 := HRb.out.2.1.ext hx
          have X := HRb.out.2.2.2.2.1.trans hx
          clear HRb hx
          cases hc : (codeP xs (phraseB s) y == 0)
          · go_wp2
            go_ret
            exact ⟨rfl, X⟩
          · have HC := Lib.hid (fun k (hk : k < (nmL xs s y).length) => named_in (by simpa using hc) hk)
            have r4 := r1
            have r5 := r2
            go_wp2_with fail
            refine (implPlacesIn_any _ _ _ _ _ _ r1 hcap1 (hmax.ext X)).mono ?_
            rintro e wp ⟨vp, rfl, ap, np, cp, rfl, _, op, xp⟩
            have rp := op.rd
            clear op
            replace r1 := r1.ext xp
            replace r2 := r2.ext xp
            replace r4 := r4.ext xp
            replace r5 := r5.ext xp
            replace X := X.trans xp
            have HRc := Lib.hid (And.intro r1 (And.intro r2 (And.intro r4 (And.intro r5 (And.intro X rp)))))
            have hlnc := r2.len
            have hlmc := r2.le
            clear r1 r2 r4 r5 X rp xp
            go_wp2
            go_loopw [39] (fun i wr => ∃ k : Nat, k ≤ n2 ∧ i = .int .i64 k ∧ Ext wp wr) (fun i _ => n2 - (intOf i).toNat)
            case atStart => exact ⟨0, Nat.zero_le _, rfl, Ext.refl _⟩
            case round =>
              obtain ⟨k, hk, rfl, hx⟩ := hrel
              by_cases hlt : k < n2
              · obtain ⟨b2, o2, ea, hbb, hA2⟩ := (HRc.out.2.1.ext hx).at (by omega)
                have hck := hA2 k hlt
                subst ea
                have hki : (k : Int) < n2 := by omega
                have HQ := Lib.hid (HC.out k (by omega))
                clear hA2
                rw [HQ.out.1]
                go_wp2_with fail
                refine (hasText_any _ _ _ _ _ _ (HRc.out.2.2.2.2.2.ext hx)).mono ?_
                rintro e w21 ⟨rfl, rfl⟩
                rw [HQ.out.2]
                clear hck
                go_wp2
                go_roundw
                case rel => exact ⟨k + 1, by omega, by go_num, hx⟩
                case measure => simp [intOf]; omega
              · have r1 := HRc.out.1.ext hx
                have r2 := HRc.out.2.1.ext hx
                have X := HRc.out.2.2.2.2.1.trans hx
                clear HRc hx
                go_wp2
                go_ret
                exact ⟨rfl, X⟩
  · cases he : (nv.toList == u.toList)
    · have hne : nv ≠ u := by rintro rfl; simp at he
      have HZ := Lib.hid (HN.out (by simpa using ha) hne)
      clear hne
      go_wp2_with fail
      refine (implPlacesNamed_any _ _ _ _ _ _ _ r7 hcap7 hnv (hmax.ext X)).mono ?_
      rintro e w15 ⟨v15, rfl, a15, n15, c15, rfl, _, o15, x15⟩
      have r15 := o15.rd
      clear o15 r7
      replace r1 := r1.ext x15
      replace r2 := r2.ext x15
      replace r4 := r4.ext x15
      replace r5 := r5.ext x15
      replace X := X.trans x15
      rw [HZ.out.1]
      go_wp2_with fail
      refine (hasText_any _ _ _ _ _ _ r15).mono ?_
      rintro e w16 ⟨rfl, rfl⟩
      rw [HZ.out.2]
      clear r15
      cases hb : (okC ys zs cl z == 0)
      · clear r4 r5
        cases hc : (codeP xs (phraseB s) y == 0)
        · go_wp2
          go_ret
          exact ⟨rfl, X⟩
        · have HC := Lib.hid (fun k (hk : k < (nmL xs s y).length) => named_in (by simpa using hc) hk)
          have r4 := r1
          have r5 := r2
          go_wp2_with fail
          refine (implPlacesIn_any _ _ _ _ _ _ r1 hcap1 (hmax.ext X)).mono ?_
          rintro e wp ⟨vp, rfl, ap, np, cp, rfl, _, op, xp⟩
          have rp := op.rd
          clear op
          replace r1 := r1.ext xp
          replace r2 := r2.ext xp
          replace r4 := r4.ext xp
          replace r5 := r5.ext xp
          replace X := X.trans xp
          have HRc := Lib.hid (And.intro r1 (And.intro r2 (And.intro r4 (And.intro r5 (And.intro X rp)))))
          have hlnc := r2.len
          have hlmc := r2.le
          clear r1 r2 r4 r5 X rp xp
          go_wp2
          go_loopw [39] (fun i wr => ∃ k : Nat, k ≤ n2 ∧ i = .int .i64 k ∧ Ext wp wr) (fun i _ => n2 - (intOf i).toNat)
          case atStart => exact ⟨0, Nat.zero_le _, rfl, Ext.refl _⟩
          case round =>
            obtain ⟨k, hk, rfl, hx⟩ := hrel
            by_cases hlt : k < n2
            · obtain ⟨b2, o2, ea, hbb, hA2⟩ := (HRc.out.2.1.ext hx).at (by omega)
              have hck := hA2 k hlt
              subst ea
              have hki : (k : Int) < n2 := by omega
              have HQ := Lib.hid (HC.out k (by omega))
              clear hA2
              rw [HQ.out.1]
              go_wp2_with fail
              refine (hasText_any _ _ _ _ _ _ (HRc.out.2.2.2.2.2.ext hx)).mono ?_
              rintro e w21 ⟨rfl, rfl⟩
              rw [HQ.out.2]
              clear hck
              go_wp2
              go_roundw
              case rel => exact ⟨k + 1, by omega, by go_num, hx⟩
              case measure => simp [intOf]; omega
            · have r1 := HRc.out.1.ext hx
              have r2 := HRc.out.2.1.ext hx
              have X := HRc.out.2.2.2.2.1.trans hx
              clear HRc hx
              go_wp2
              go_ret
              exact ⟨rfl, X⟩
      · have HB := Lib.hid (fun k (hk : k < (okL ys zs cl z).length) => kind_in (by simpa using hb) hk)
        go_wp2_with fail
        refine (implPlacesIn_any _ _ _ _ _ _ r4 hcap4 (hmax.ext X)).mono ?_
        rintro e wp ⟨vp, rfl, ap, np, cp, rfl, _, op, xp⟩
        have rp := op.rd
        clear op
        replace r1 := r1.ext xp
        replace r2 := r2.ext xp
        replace r4 := r4.ext xp
        replace r5 := r5.ext xp
        replace X := X.trans xp
        have HRb := Lib.hid (And.intro r1 (And.intro r2 (And.intro r4 (And.intro r5 (And.intro X rp)))))
        have hlnb := r5.len
        have hlmb := r5.le
        clear r1 r2 r4 r5 X rp xp
        go_wp2
        go_loopw [36] (fun i wr => ∃ k : Nat, k ≤ n6 ∧ i = .int .i64 k ∧ Ext wp wr) (fun i _ => n6 - (intOf i).toNat)
        case atStart => exact ⟨0, Nat.zero_le _, rfl, Ext.refl _⟩
        case round =>
          obtain ⟨k, hk, rfl, hx⟩ := hrel
          by_cases hlt : k < n6
          · obtain ⟨b2, o2, ea, hbb, hA2⟩ := (HRb.out.2.2.2.1.ext hx).at (by omega)
            have hck := hA2 k hlt
            subst ea
            have hki : (k : Int) < n6 := by omega
            have HQ := Lib.hid (HB.out k (by omega))
            clear hA2
            rw [HQ.out.1]
            go_wp2_with fail
            refine (hasText_any _ _ _ _ _ _ (HRb.out.2.2.2.2.2.ext hx)).mono ?_
            rintro e w21 ⟨rfl, rfl⟩
            rw [HQ.out.2]
            clear hck
            go_wp2
            go_roundw
            case rel => exact ⟨k + 1, by omega, by go_num, hx⟩
            case measure => simp [intOf]; omega
          · have r1 := HRb.out.1.ext hx
            have r2 := HRb.out.2.1.ext hx
            have X := HRb.out.2.2.2.2.1.trans hx
            clear HRb hx
            cases hc : (codeP xs (phraseB s) y == 0)
            · go_wp2
              go_ret
              exact ⟨rfl, X⟩
            · have HC := Lib.hid (fun k (hk : k < (nmL xs s y).length) => named_in (by simpa using hc) hk)
              have r4 := r1
              have r5 := r2
              go_wp2_with fail
              refine (implPlacesIn_any _ _ _ _ _ _ r1 hcap1 (hmax.ext X)).mono ?_
              rintro e wp ⟨vp, rfl, ap, np, cp, rfl, _, op, xp⟩
              have rp := op.rd
              clear op
              replace r1 := r1.ext xp
              replace r2 := r2.ext xp
              replace r4 := r4.ext xp
              replace r5 := r5.ext xp
              replace X := X.trans xp
              have HRc := Lib.hid (And.intro r1 (And.intro r2 (And.intro r4 (And.intro r5 (And.intro X rp)))))
              have hlnc := r2.len
              have hlmc := r2.le
              clear r1 r2 r4 r5 X rp xp
              go_wp2
              go_loopw [39] (fun i wr => ∃ k : Nat, k ≤ n2 ∧ i = .int .i64 k ∧ Ext wp wr) (fun i _ => n2 - (intOf i).toNat)
              case atStart => exact ⟨0, Nat.zero_le _, rfl, Ext.refl _⟩
              case round =>
                obtain ⟨k, hk, rfl, hx⟩ := hrel
                by_cases hlt : k < n2
                · obtain ⟨b2, o2, ea, hbb, hA2⟩ := (HRc.out.2.1.ext hx).at (by omega)
                  have hck := hA2 k hlt
                  subst ea
                  have hki : (k : Int) < n2 := by omega
                  have HQ := Lib.hid (HC.out k (by omega))
                  clear hA2
                  rw [HQ.out.1]
                  go_wp2_with fail
                  refine (hasText_any _ _ _ _ _ _ (HRc.out.2.2.2.2.2.ext hx)).mono ?_
                  rintro e w21 ⟨rfl, rfl⟩
                  rw [HQ.out.2]
                  clear hck
                  go_wp2
                  go_roundw
                  case rel => exact ⟨k + 1, by omega, by go_num, hx⟩
                  case measure => simp [intOf]; omega
                · have r1 := HRc.out.1.ext hx
                  have r2 := HRc.out.2.1.ext hx
                  have X := HRc.out.2.2.2.2.1.trans hx
                  clear HRc hx
                  go_wp2
                  go_ret
                  exact ⟨rfl, X⟩
    · clear r7
      cases hb : (okC ys zs cl z == 0)
      · clear r4 r5
        cases hc : (codeP xs (phraseB s) y == 0)
        · go_wp2
          go_ret
          exact ⟨rfl, X⟩
        · have HC := Lib.hid (fun k (hk : k < (nmL xs s y).length) => named_in (by simpa using hc) hk)
          have r4 := r1
          have r5 := r2
          go_wp2_with fail
          refine (implPlacesIn_any _ _ _ _ _ _ r1 hcap1 (hmax.ext X)).mono ?_
          rintro e wp ⟨vp, rfl, ap, np, cp, rfl, _, op, xp⟩
          have rp := op.rd
          clear op
          replace r1 := r1.ext xp
          replace r2 := r2.ext xp
          replace r4 := r4.ext xp
          replace r5 := r5.ext xp
          replace X := X.trans xp
          have HRc := Lib.hid (And.intro r1 (And.intro r2 (And.intro r4 (And.intro r5 (And.intro X rp)))))
          have hlnc := r2.len
          have hlmc := r2.le
          clear r1 r2 r4 r5 X rp xp
          go_wp2
          go_loopw [39] (fun i wr => ∃ k : Nat, k ≤ n2 ∧ i = .int .i64 k ∧ Ext wp wr) (fun i _ => n2 - (intOf i).toNat)
          case atStart => exact ⟨0, Nat.zero_le _, rfl, Ext.refl _⟩
          case round =>
            obtain ⟨k, hk, rfl, hx⟩ := hrel
            by_cases hlt : k < n2
            · obtain ⟨b2, o2, ea, hbb, hA2⟩ := (HRc.out.2.1.ext hx).at (by omega)
              have hck := hA2 k hlt
              subst ea
              have hki : (k : Int) < n2 := by omega
              have HQ := Lib.hid (HC.out k (by omega))
              clear hA2
              rw [HQ.out.1]
              go_wp2_with fail
              refine (hasText_any _ _ _ _ _ _ (HRc.out.2.2.2.2.2.ext hx)).mono ?_
              rintro e w21 ⟨rfl, rfl⟩
              rw [HQ.out.2]
              clear hck
              go_wp2
              go_roundw
              case rel => exact ⟨k + 1, by omega, by go_num, hx⟩
              case measure => simp [intOf]; omega
            · have r1 := HRc.out.1.ext hx
              have r2 := HRc.out.2.1.ext hx
              have X := HRc.out.2.2.2.2.1.trans hx
              clear HRc hx
              go_wp2
              go_ret
              exact ⟨rfl, X⟩
      · have HB := Lib.hid (fun k (hk : k < (okL ys zs cl z).length) => kind_in (by simpa using hb) hk)
        go_wp2_with fail
        refine (implPlacesIn_any _ _ _ _ _ _ r4 hcap4 (hmax.ext X)).mono ?_
        rintro e wp ⟨vp, rfl, ap, np, cp, rfl, _, op, xp⟩
        have rp := op.rd
        clear op
        replace r1 := r1.ext xp
        replace r2 := r2.ext xp
        replace r4 := r4.ext xp
        replace r5 := r5.ext xp
        replace X := X.trans xp
        have HRb := Lib.hid (And.intro r1 (And.intro r2 (And.intro r4 (And.intro r5 (And.intro X rp)))))
        have hlnb := r5.len
        have hlmb := r5.le
        clear r1 r2 r4 r5 X rp xp
        go_wp2
        go_loopw [36] (fun i wr => ∃ k : Nat, k ≤ n6 ∧ i = .int .i64 k ∧ Ext wp wr) (fun i _ => n6 - (intOf i).toNat)
        case atStart => exact ⟨0, Nat.zero_le _, rfl, Ext.refl _⟩
        case round =>
          obtain ⟨k, hk, rfl, hx⟩ := hrel
          by_cases hlt : k < n6
          · obtain ⟨b2, o2, ea, hbb, hA2⟩ := (HRb.out.2.2.2.1.ext hx).at (by omega)
            have hck := hA2 k hlt
            subst ea
            have hki : (k : Int) < n6 := by omega
            have HQ := Lib.hid (HB.out k (by omega))
            clear hA2
            rw [HQ.out.1]
            go_wp2_with fail
            refine (hasText_any _ _ _ _ _ _ (HRb.out.2.2.2.2.2.ext hx)).mono ?_
            rintro e w21 ⟨rfl, rfl⟩
            rw [HQ.out.2]
            clear hck
            go_wp2
            go_roundw
            case rel => exact ⟨k + 1, by omega, by go_num, hx⟩
            case measure => simp [intOf]; omega
          · have r1 := HRb.out.1.ext hx
            have r2 := HRb.out.2.1.ext hx
            have X := HRb.out.2.2.2.2.1.trans hx
            clear HRb hx
            cases hc : (codeP xs (phraseB s) y == 0)
            · go_wp2
              go_ret
              exact ⟨rfl, X⟩
            · have HC := Lib.hid (fun k (hk : k < (nmL xs s y).length) => named_in (by simpa using hc) hk)
              have r4 := r1
              have r5 := r2
              go_wp2_with fail
              refine (implPlacesIn_any _ _ _ _ _ _ r1 hcap1 (hmax.ext X)).mono ?_
              rintro e wp ⟨vp, rfl, ap, np, cp, rfl, _, op, xp⟩
              have rp := op.rd
              clear op
              replace r1 := r1.ext xp
              replace r2 := r2.ext xp
              replace r4 := r4.ext xp
              replace r5 := r5.ext xp
              replace X := X.trans xp
              have HRc := Lib.hid (And.intro r1 (And.intro r2 (And.intro r4 (And.intro r5 (And.intro X rp)))))
              have hlnc := r2.len
              have hlmc := r2.le
              clear r1 r2 r4 r5 X rp xp
              go_wp2
              go_loopw [39] (fun i wr => ∃ k : Nat, k ≤ n2 ∧ i = .int .i64 k ∧ Ext wp wr) (fun i _ => n2 - (intOf i).toNat)
              case atStart => exact ⟨0, Nat.zero_le _, rfl, Ext.refl _⟩
              case round =>
                obtain ⟨k, hk, rfl, hx⟩ := hrel
                by_cases hlt : k < n2
                · obtain ⟨b2, o2, ea, hbb, hA2⟩ := (HRc.out.2.1.ext hx).at (by omega)
                  have hck := hA2 k hlt
                  subst ea
                  have hki : (k : Int) < n2 := by omega
                  have HQ := Lib.hid (HC.out k (by omega))
                  clear hA2
                  rw [HQ.out.1]
                  go_wp2_with fail
                  refine (hasText_any _ _ _ _ _ _ (HRc.out.2.2.2.2.2.ext hx)).mono ?_
                  rintro e w21 ⟨rfl, rfl⟩
                  rw [HQ.out.2]
                  clear hck
                  go_wp2
                  go_roundw
                  case rel => exact ⟨k + 1, by omega, by go_num, hx⟩
                  case measure => simp [intOf]; omega
                · have r1 := HRc.out.1.ext hx
                  have r2 := HRc.out.2.1.ext hx
                  have X := HRc.out.2.2.2.2.1.trans hx
                  clear HRc hx
                  go_wp2
                  go_ret
                  exact ⟨rfl, X⟩

end Go.Proofs.YtjelmidkkpchkaaGreatDoor.fnPlacesByName
