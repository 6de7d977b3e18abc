/-
  The two TranslateGeneric.
-/
import Derived.Test.YtfglmoedicijkaaDoorTA3
namespace Go.Proofs.YtfglmoedicijkaaDoor
open Go.RowKit
attribute [local go_sem ↓] Go.wp_at_zero Go.wp_at_succ

theorem genericsB_at {gs : List ByteArray} (h : genericsB gs = true) {k : Nat} (hk : k < gs.length) : wordB (nthS gs k) = true := by
  rw [genericsB, Bool.and_eq_true, firstsB, List.all_eq_true] at h
  have := h.1 k (List.mem_range.2 hk)
  rw [Bool.and_eq_true] at this
  exact this.1
theorem word_ne {s : ByteArray} (h : wordB s = true) : s ≠ ⟨#[]⟩ := by
  intro he
  have := (wordB_size h).1
  rw [he] at this
  exact absurd this (by decide)
theorem apart_cases {gs : List ByteArray} (s : ByteArray) (hg : genericsB gs = true) :
    (apartP gs s = ⟨s, ⟨#[]⟩⟩ ∧ idxS gs ⟨#[]⟩ = -1) ∨ ((apartP gs s).gen ≠ ⟨#[]⟩ ∧ ∃ k, k < gs.length ∧ idxS gs (apartP gs s).gen = (k : Nat)) := by
  have hsome : ∀ x, hasS gs x = true → x ≠ ⟨#[]⟩ ∧ ∃ k, k < gs.length ∧ idxS gs x = (k : Nat) := fun x hx => by
    obtain ⟨k, hk, hn, _, hi⟩ := hasS_of hx
    exact ⟨by rw [← hn]; exact word_ne (genericsB_at hg hk), k, hk, hi⟩
  rw [apartP]
  split
  · rename_i h
    exact .inr (hsome _ h.2)
  · split
    · rename_i h
      exact .inr (hsome _ h.2)
    · exact .inl ⟨rfl, idxS_none fun j hj => word_ne (genericsB_at hg hj)⟩
theorem nthS_size {ss : List ByteArray} (h : wordsB ss = true) (k : Nat) : (nthS ss k).size ≤ 16 := by
  by_cases hk : k < ss.length
  · exact (wordB_size (wordsB_at h hk)).2
  · rw [nthS, List.getD_eq_getElem?_getD, List.getElem?_eq_none (by omega)]
    decide
theorem apart_ok {gs : List ByteArray} {s : ByteArray} (hp : phraseB s = true) (hs : s.size ≤ 1073741000) : (apartP gs s).spec.size ≤ 1073741000 ∧ (apartP gs s).gen.size ≤ 16 := by
  obtain ⟨hn8, hwords⟩ := phrase_words hp
  have htot := words_tot hwords
  rw [apartP]
  split
  · refine ⟨?_, nthS_size hwords _⟩
    have := joinS_size (ss := splitC 32 s) ((splitC 32 s).length - 1) (by omega)
    have h2 := tot_take_le (ss := splitC 32 s) ((splitC 32 s).length - 1) (by omega)
    simp only
    omega
  · split
    · refine ⟨?_, nthS_size hwords _⟩
      have := joinS_size (ss := (splitC 32 s).drop 1) ((splitC 32 s).drop 1).length (Nat.le_refl _)
      have h2 := tot_drop_le (ss := splitC 32 s) 1
      have h3 : ((splitC 32 s).drop 1).length ≤ 8 := by simp only [List.length_drop]; omega
      rw [List.take_length] at this
      simp only
      omega
    · exact ⟨hs, Nat.zero_le _⟩

def trB (gs ts : List ByteArray) (s : ByteArray) : Bool := genericsB gs && genericsB ts && phraseB s
def trC (gs ts : List ByteArray) (s : ByteArray) : Int := if trB gs ts s = true then (if gs.length = ts.length then 0 else 5) else 1
def trS (gs ts : List ByteArray) (s : ByteArray) : ByteArray :=
  if trB gs ts s = true ∧ gs.length = ts.length then (if (apartP gs s).gen = ⟨#[]⟩ then s else together ⟨(apartP gs s).spec, nthS ts (idxS gs (apartP gs s).gen).toNat⟩ (apartF gs s)) else ⟨#[]⟩
theorem tr_bad {gs ts : List ByteArray} {s : ByteArray} (h : trB gs ts s = false) : trS gs ts s = ⟨#[]⟩ ∧ trC gs ts s = 1 := by
  rw [trS, trC, h]
  exact ⟨if_neg (fun h => by cases h.1), if_neg (by decide)⟩
theorem tr_len {gs ts : List ByteArray} {s : ByteArray} (h : trB gs ts s = true) (hl : gs.length ≠ ts.length) : trS gs ts s = ⟨#[]⟩ ∧ trC gs ts s = 5 := by
  rw [trS, trC, h]
  exact ⟨if_neg (fun h => hl h.2), by rw [if_pos rfl, if_neg hl]⟩
theorem tr_same {gs ts : List ByteArray} {s : ByteArray} (h : trB gs ts s = true) (hl : gs.length = ts.length) (ha : apartP gs s = ⟨s, ⟨#[]⟩⟩) : trS gs ts s = s ∧ trC gs ts s = 0 := by
  rw [trS, trC, h]
  exact ⟨by rw [if_pos ⟨rfl, hl⟩, if_pos (by rw [ha])], by rw [if_pos rfl, if_pos hl]⟩
theorem tr_other {gs ts : List ByteArray} {s : ByteArray} (h : trB gs ts s = true) (hl : gs.length = ts.length) {k : Nat} (hn : (apartP gs s).gen ≠ ⟨#[]⟩) (hk : idxS gs (apartP gs s).gen = k) : trS gs ts s = together ⟨(apartP gs s).spec, nthS ts k⟩ (apartF gs s) ∧ trC gs ts s = 0 := by
  rw [trS, trC, h]
  exact ⟨by rw [if_pos ⟨rfl, hl⟩, if_neg hn, hk]; rfl, by rw [if_pos rfl, if_pos hl]⟩

set_option maxRecDepth 100000 in
set_option maxHeartbeats 1000000 in
theorem specTranslateGeneric_any (a b : Option Addr) (n m c c' : Nat) (s : ByteArray) (gs ts : List ByteArray) (w : World) (hr : RdS w a n gs) (hr2 : RdS w b m ts) (hs : s.size ≤ 1073741000) :
    Calls Tryd.prog 35 #[.slice a n c, .slice b m c', .string s] w (RetSC w (trS gs ts s) (trC gs ts s)) := by
  cases hg : genericsB gs
  · have HR := Lib.hid (tr_bad (gs := gs) (ts := ts) (s := s) (by rw [trB, hg]; rfl))
    have HG := Lib.hid hg
    clear hg
    go_enter Tryd.func35, Tryd.ntmps35
    go_wp2_with fail
    refine (specAreGenerics_any _ _ _ _ _ hr).mono ?_
    rintro e w1 ⟨rfl, rfl⟩
    rw [HG.out]
    go_wp2
    go_ret2
    exact ⟨by rw [HR.out.1, HR.out.2]; rfl, Ext.refl _⟩
  cases hg2 : genericsB ts
  · have HR := Lib.hid (tr_bad (gs := gs) (ts := ts) (s := s) (by rw [trB, hg, hg2]; rfl))
    have HG := Lib.hid hg
    have HG2 := Lib.hid hg2
    clear hg hg2
    go_enter Tryd.func35, Tryd.ntmps35
    go_wp2_with fail
    refine (specAreGenerics_any _ _ _ _ _ hr).mono ?_
    rintro e w1 ⟨rfl, rfl⟩
    rw [HG.out]
    go_wp2_with fail
    refine (specAreGenerics_any _ _ _ _ _ hr2).mono ?_
    rintro e w1 ⟨rfl, rfl⟩
    rw [HG2.out]
    go_wp2
    go_ret2
    exact ⟨by rw [HR.out.1, HR.out.2]; rfl, Ext.refl _⟩
  have hln := hr.len
  have hln2 := hr2.len
  cases hp : phraseB s
  · have HR := Lib.hid (tr_bad (gs := gs) (ts := ts) (s := s) (by rw [trB, hg, hg2, hp]; rfl))
    have HG := Lib.hid hg
    have HG2 := Lib.hid hg2
    have HP := Lib.hid hp
    clear hg hg2 hp
    go_enter Tryd.func35, Tryd.ntmps35
    go_wp2_with fail
    refine (specAreGenerics_any _ _ _ _ _ hr).mono ?_
    rintro e w1 ⟨rfl, rfl⟩
    rw [HG.out]
    go_wp2_with fail
    refine (specAreGenerics_any _ _ _ _ _ hr2).mono ?_
    rintro e w1 ⟨rfl, rfl⟩
    rw [HG2.out]
    go_wp2_with fail
    refine (specIsPhrase_any _ _ (by omega)).mono ?_
    rintro e w2 ⟨rfl, e2⟩
    rw [HP.out]
    go_wp2
    go_ret2
    exact ⟨by rw [HR.out.1, HR.out.2]; rfl, e2⟩
  have htb : trB gs ts s = true := by rw [trB, hg, hg2, hp]; rfl
  by_cases hl : gs.length = ts.length
  · have hnm : n = m := by omega
    subst hnm
    have hao := apart_ok (gs := gs) hp hs
    rcases apart_cases s hg with ⟨ha, hi⟩ | ⟨hne, k, hk, hi⟩
    · have HR := Lib.hid (tr_same htb hl ha)
      have HG := Lib.hid hg
      have HG2 := Lib.hid hg2
      have HP := Lib.hid hp
      have HA := Lib.hid ha
      have HI := Lib.hid hi
      clear hg hg2 hp htb ha hi
      go_enter Tryd.func35, Tryd.ntmps35
      go_wp2_with fail
      refine (specAreGenerics_any _ _ _ _ _ hr).mono ?_
      rintro e w1 ⟨rfl, rfl⟩
      rw [HG.out]
      go_wp2_with fail
      refine (specAreGenerics_any _ _ _ _ _ hr2).mono ?_
      rintro e w1 ⟨rfl, rfl⟩
      rw [HG2.out]
      go_wp2_with fail
      refine (specIsPhrase_any _ _ (by omega)).mono ?_
      rintro e w2 ⟨rfl, e2⟩
      rw [HP.out]
      go_wp2_with fail
      refine (l08Apart_any _ _ _ _ _ _ (hr.ext e2) HP.out (by omega)).mono ?_
      rintro e w3 ⟨rfl, e3⟩
      rw [valParts, HA.out]
      go_wp2_with fail
      refine (l03Find_any _ _ _ _ _ _ ((hr.ext (e2.trans e3)).ext ((Ext.refl _).alloc _))).mono ?_
      rintro e w4 ⟨rfl, rfl⟩
      rw [HI.out]
      go_wp2
      go_ret2
      exact ⟨by rw [HR.out.1, HR.out.2]; rfl, (e2.trans e3).alloc _⟩
    · have hok : okParts ⟨(apartP gs s).spec, nthS ts k⟩ := ⟨by have := hao.1; show (apartP gs s).spec.size ≤ _; omega, hr2.size (by omega)⟩
      have HR := Lib.hid (tr_other htb hl hne hi)
      have HG := Lib.hid hg
      have HG2 := Lib.hid hg2
      have HP := Lib.hid hp
      have HI := Lib.hid hi
      have HOK := Lib.hid hok
      clear hg hg2 hp htb hi hok hne
      go_enter Tryd.func35, Tryd.ntmps35
      go_wp2_with fail
      refine (specAreGenerics_any _ _ _ _ _ hr).mono ?_
      rintro e w1 ⟨rfl, rfl⟩
      rw [HG.out]
      go_wp2_with fail
      refine (specAreGenerics_any _ _ _ _ _ hr2).mono ?_
      rintro e w1 ⟨rfl, rfl⟩
      rw [HG2.out]
      go_wp2_with fail
      refine (specIsPhrase_any _ _ (by omega)).mono ?_
      rintro e w2 ⟨rfl, e2⟩
      rw [HP.out]
      go_wp2_with fail
      refine (l08Apart_any _ _ _ _ _ _ (hr.ext e2) HP.out (by omega)).mono ?_
      rintro e w3 ⟨rfl, e3⟩
      rw [valParts]
      go_wp2_with fail
      refine (l03Find_any _ _ _ _ _ _ ((hr.ext (e2.trans e3)).ext ((Ext.refl _).alloc _))).mono ?_
      rintro e w4 ⟨rfl, rfl⟩
      rw [HI.out]
      have hkn : k < n := by omega
      have hr3 := (hr2.ext (e2.trans e3)).ext ((Ext.refl _).alloc (.cells #[.string (apartP gs s).spec, .string (apartP gs s).gen] 51))
      obtain ⟨bb, o, rfl, hbl, hc⟩ := hr3.at (by omega)
      have hck := hc k (by omega)
      clear hc
      have p0 : (0 : Int) ≤ (k : Int) := by omega
      have p1 : (k : Int) < (n : Int) := by omega
      have p2 : ¬ (k : Int) < 0 := by omega
      have b0 : (w3.alloc (.cells #[.string (apartP gs s).spec, .string (apartP gs s).gen] 51)).cell? ⟨w3.heap.size, 0, none⟩ = some (.string (apartP gs s).spec) := box_keptG (Ext.refl _) 0
      go_wp2_with fail
      go_region_held3 (fun w' => w'.cell? ⟨w3.heap.size, 0, none⟩ = some (.string (apartP gs s).spec) ∧ w'.cell? ⟨bb, o + k, none⟩ = some (.string (nthS ts k))) (go_keep) (first | (go_at_call 69; refine (l08Together_any ⟨(apartP gs s).spec, nthS ts k⟩ _ _ HOK.out).mono ?_; rintro e w5 ⟨rfl, e5⟩; have k0 := (Below.cell ((Ext.refl _).drew.trans e5) (p := ⟨w3.heap.size, 0, none⟩) (by simp)).trans b0; have k2 := (Below.cell ((Ext.refl _).drew.trans e5) (p := ⟨bb, o + k, none⟩) hbl).trans hck))
      go_wp2
      go_ret2
      exact ⟨by rw [HR.out.1, HR.out.2]; rfl, ((e2.trans e3).alloc _).trans ((Ext.refl _).drew.trans e5)⟩
  · have hnm : n ≠ m := by omega
    have hnm2 : ¬ (n : Int) = m := by omega
    have HR := Lib.hid (tr_len htb hl)
    have HG := Lib.hid hg
    have HG2 := Lib.hid hg2
    have HP := Lib.hid hp
    clear hg hg2 hp htb
    go_enter Tryd.func35, Tryd.ntmps35
    go_wp2_with fail
    refine (specAreGenerics_any _ _ _ _ _ hr).mono ?_
    rintro e w1 ⟨rfl, rfl⟩
    rw [HG.out]
    go_wp2_with fail
    refine (specAreGenerics_any _ _ _ _ _ hr2).mono ?_
    rintro e w1 ⟨rfl, rfl⟩
    rw [HG2.out]
    go_wp2_with fail
    refine (specIsPhrase_any _ _ (by omega)).mono ?_
    rintro e w2 ⟨rfl, e2⟩
    rw [HP.out]
    go_wp2
    go_ret2
    exact ⟨by rw [HR.out.1, HR.out.2]; rfl, e2⟩

set_option maxRecDepth 100000 in
set_option maxHeartbeats 1000000 in
theorem implTranslateGeneric_any (a b : Option Addr) (n m c c' : Nat) (s : ByteArray) (gs ts : List ByteArray) (w : World) (hr : RdS w a n gs) (hcap : n ≤ c) (hr2 : RdS w b m ts) (hcap2 : m ≤ c') (hs : s.size ≤ 1073741000) (hmax : MaxW w) :
    Calls Tryd.prog 34 #[.slice a n c, .slice b m c', .string s] w (RetSC w (trS gs ts s) (trC gs ts s)) := by
  cases hg : genericsB gs
  · have HR := Lib.hid (tr_bad (gs := gs) (ts := ts) (s := s) (by rw [trB, hg]; rfl))
    have HG := Lib.hid hg
    clear hg
    go_enter Tryd.func34, Tryd.ntmps34
    go_wp2_with fail
    refine (implAreGenerics_any _ _ _ _ _ hr hcap).mono ?_
    rintro e w1 ⟨rfl, e1⟩
    rw [HG.out]
    go_wp2
    go_ret2
    exact ⟨by rw [HR.out.1, HR.out.2]; rfl, e1⟩
  cases hg2 : genericsB ts
  · have HR := Lib.hid (tr_bad (gs := gs) (ts := ts) (s := s) (by rw [trB, hg, hg2]; rfl))
    have HG := Lib.hid hg
    have HG2 := Lib.hid hg2
    clear hg hg2
    go_enter Tryd.func34, Tryd.ntmps34
    go_wp2_with fail
    refine (implAreGenerics_any _ _ _ _ _ hr hcap).mono ?_
    rintro e w1 ⟨rfl, e1⟩
    rw [HG.out]
    go_wp2_with fail
    refine (implAreGenerics_any _ _ _ _ _ (hr2.ext e1) hcap2).mono ?_
    rintro e w2 ⟨rfl, e2⟩
    rw [HG2.out]
    go_wp2
    go_ret2
    exact ⟨by rw [HR.out.1, HR.out.2]; rfl, e1.trans e2⟩
  have hln := hr.len
  have hln2 := hr2.len
  cases hp : phraseB s
  · have HR := Lib.hid (tr_bad (gs := gs) (ts := ts) (s := s) (by rw [trB, hg, hg2, hp]; rfl))
    have HG := Lib.hid hg
    have HG2 := Lib.hid hg2
    have HP := Lib.hid hp
    clear hg hg2 hp
    go_enter Tryd.func34, Tryd.ntmps34
    go_wp2_with fail
    refine (implAreGenerics_any _ _ _ _ _ hr hcap).mono ?_
    rintro e w1 ⟨rfl, e1⟩
    rw [HG.out]
    go_wp2_with fail
    refine (implAreGenerics_any _ _ _ _ _ (hr2.ext e1) hcap2).mono ?_
    rintro e w2 ⟨rfl, e2⟩
    rw [HG2.out]
    go_wp2_with fail
    refine (implIsPhrase_any _ _ (by omega) (hmax.ext (e1.trans e2))).mono ?_
    rintro e w3 ⟨rfl, e3⟩
    rw [HP.out]
    go_wp2
    go_ret2
    exact ⟨by rw [HR.out.1, HR.out.2]; rfl, (e1.trans e2).trans e3⟩
  have htb : trB gs ts s = true := by rw [trB, hg, hg2, hp]; rfl
  by_cases hl : gs.length = ts.length
  · have hnm : n = m := by omega
    subst hnm
    have hao := apart_ok (gs := gs) hp hs
    rcases apart_cases s hg with ⟨ha, hi⟩ | ⟨hne, k, hk, hi⟩
    · have HR := Lib.hid (tr_same htb hl ha)
      have HG := Lib.hid hg
      have HG2 := Lib.hid hg2
      have HP := Lib.hid hp
      have HA := Lib.hid ha
      clear hg hg2 hp htb ha hi
      go_enter Tryd.func34, Tryd.ntmps34
      go_wp2_with fail
      refine (implAreGenerics_any _ _ _ _ _ hr hcap).mono ?_
      rintro e w1 ⟨rfl, e1⟩
      rw [HG.out]
      go_wp2_with fail
      refine (implAreGenerics_any _ _ _ _ _ (hr2.ext e1) hcap2).mono ?_
      rintro e w2 ⟨rfl, e2⟩
      rw [HG2.out]
      go_wp2_with fail
      refine (implIsPhrase_any _ _ (by omega) (hmax.ext (e1.trans e2))).mono ?_
      rintro e w3 ⟨rfl, e3⟩
      rw [HP.out]
      go_wp2_with fail
      refine (takeApart_any _ _ _ _ _ _ (hr.ext ((e1.trans e2).trans e3)) HP.out (by omega) (hmax.ext ((e1.trans e2).trans e3))).mono ?_
      rintro e w4 ⟨rfl, e4⟩
      rw [valParts, HA.out]
      have c0 : (w4.alloc (.cells #[.string s, .string ⟨#[]⟩] 51)).cell? ⟨w4.heap.size, 0, none⟩ = some (.string s) := box_keptG (Ext.refl _) 0
      have c1 : (w4.alloc (.cells #[.string s, .string ⟨#[]⟩] 51)).cell? ⟨w4.heap.size, 1, none⟩ = some (.string ⟨#[]⟩) := box_keptG (Ext.refl _) 1
      go_wp2_with fail
      refine (putTogether_any ⟨s, ⟨#[]⟩⟩ _ _ ⟨by show s.size ≤ _; omega, Nat.zero_le _⟩).mono ?_
      rintro e w5 ⟨rfl, e5⟩
      go_wp2
      go_ret2
      exact ⟨by rw [HR.out.1, HR.out.2]; rfl, ((((e1.trans e2).trans e3).trans e4).alloc _).trans e5⟩
    · have hok : okParts ⟨(apartP gs s).spec, nthS ts k⟩ := ⟨by have := hao.1; show (apartP gs s).spec.size ≤ _; omega, hr2.size (by omega)⟩
      have hne2 := isEmptyS_ne hne
      have HR := Lib.hid (tr_other htb hl hne hi)
      have HG := Lib.hid hg
      have HG2 := Lib.hid hg2
      have HP := Lib.hid hp
      have HI := Lib.hid hi
      have HOK := Lib.hid hok
      clear hg hg2 hp htb hi hok hne
      go_enter Tryd.func34, Tryd.ntmps34
      go_wp2_with fail
      refine (implAreGenerics_any _ _ _ _ _ hr hcap).mono ?_
      rintro e w1 ⟨rfl, e1⟩
      rw [HG.out]
      go_wp2_with fail
      refine (implAreGenerics_any _ _ _ _ _ (hr2.ext e1) hcap2).mono ?_
      rintro e w2 ⟨rfl, e2⟩
      rw [HG2.out]
      go_wp2_with fail
      refine (implIsPhrase_any _ _ (by omega) (hmax.ext (e1.trans e2))).mono ?_
      rintro e w3 ⟨rfl, e3⟩
      rw [HP.out]
      go_wp2_with fail
      refine (takeApart_any _ _ _ _ _ _ (hr.ext ((e1.trans e2).trans e3)) HP.out (by omega) (hmax.ext ((e1.trans e2).trans e3))).mono ?_
      rintro e w4 ⟨rfl, e4⟩
      rw [valParts]
      have hkn : k < n := by omega
      have hr3 := hr2.ext (((e1.trans e2).trans e3).trans e4)
      obtain ⟨bb, o, rfl, hbl, hc⟩ := hr3.at (by omega)
      have hck := (Below.cell ((Ext.refl w4).alloc (.cells #[.string (apartP gs s).spec, .string (apartP gs s).gen] 51)) (p := ⟨bb, o + k, none⟩) hbl).trans (hc k (by omega))
      clear hc
      have hb2 : bb ≠ w4.heap.size := by omega
      have p0 : (0 : Int) ≤ (k : Int) := by omega
      have p1 : (k : Int) < (n : Int) := by omega
      go_wp2_with fail
      refine (slIndex_string_any _ _ _ _ _ _ ((hr.ext (((e1.trans e2).trans e3).trans e4)).ext ((Ext.refl _).alloc _))).mono ?_
      rintro e w5 ⟨rfl, rfl⟩
      rw [HI.out]
      go_wp2_with fail
      refine (putTogether_any ⟨(apartP gs s).spec, nthS ts k⟩ _ _ HOK.out).mono ?_
      rintro e w6 ⟨rfl, e6⟩
      go_wp2
      go_ret2
      exact ⟨by rw [HR.out.1, HR.out.2]; rfl, ((((e1.trans e2).trans e3).trans e4).alloc _).trans e6⟩
  · have hnm : n ≠ m := by omega
    have hnm2 : ¬ (n : Int) = m := by omega
    have HR := Lib.hid (tr_len htb hl)
    have HG := Lib.hid hg
    have HG2 := Lib.hid hg2
    have HP := Lib.hid hp
    clear hg hg2 hp htb
    go_enter Tryd.func34, Tryd.ntmps34
    go_wp2_with fail
    refine (implAreGenerics_any _ _ _ _ _ hr hcap).mono ?_
    rintro e w1 ⟨rfl, e1⟩
    rw [HG.out]
    go_wp2_with fail
    refine (implAreGenerics_any _ _ _ _ _ (hr2.ext e1) hcap2).mono ?_
    rintro e w2 ⟨rfl, e2⟩
    rw [HG2.out]
    go_wp2_with fail
    refine (implIsPhrase_any _ _ (by omega) (hmax.ext (e1.trans e2))).mono ?_
    rintro e w3 ⟨rfl, e3⟩
    rw [HP.out]
    go_wp2
    go_ret2
    exact ⟨by rw [HR.out.1, HR.out.2]; rfl, (e1.trans e2).trans e3⟩

end Go.Proofs.YtfglmoedicijkaaDoor
