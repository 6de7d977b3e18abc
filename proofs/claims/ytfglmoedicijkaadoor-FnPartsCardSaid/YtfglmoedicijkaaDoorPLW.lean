/-
  The law of parts (plain): a phrase that is taken apart is put together again, in the order in which it was.
-/
import Derived.Test.YtfglmoedicijkaaDoorTR
import Derived.Test.YtfglmoedicijkaaDoorSPT
namespace Go.Proofs.YtfglmoedicijkaaDoor

/-- Joined and cut again. -/
theorem lib_join (c : UInt8) : ∀ ps : List (List UInt8), Lib.join ps [c] = joinL c ps
  | [] => rfl
  | [p] => by rw [Lib.join_one]; rfl
  | p :: q :: r => by
    have ih := lib_join c (q :: r)
    rw [Lib.join_cons] at ih ⊢
    rw [joinL, ← ih]
    simp [Lib.joinTail]
theorem split_join {c : UInt8} : ∀ {ps : List (List UInt8)}, ps ≠ [] → (∀ p ∈ ps, ∀ x ∈ p, x ≠ c) → splitL c (joinL c ps) = ps
  | [p], _, h => splitL_miss (h p (by simp))
  | p :: q :: r, _, h => by
    rw [joinL, splitL_cons (h p (by simp)), split_join (by simp) fun u hu => h u (List.mem_cons_of_mem _ hu)]
theorem low_nosp {s : ByteArray} (h : lowB s = true) : ∀ x ∈ s.data.toList, x ≠ 32 ∧ x ≠ 47 := fun x hx => by
  rw [lowB, List.all_eq_true] at h
  have := h x hx
  simp only [Bool.and_eq_true, decide_eq_true_eq] at this
  constructor
  · rintro rfl; exact absurd this.1 (by decide)
  · rintro rfl; exact absurd this.1 (by decide)
theorem word_nosp {s : ByteArray} (h : wordB s = true) : ∀ x ∈ s.data.toList, x ≠ 32 := fun x hx => by
  rw [wordB, smallB, Bool.and_eq_true] at h
  exact (low_nosp h.2 x hx).1
theorem map_bytes (L : List (List UInt8)) : (L.map fun l => (⟨l.toArray⟩ : ByteArray)).map (fun s => s.data.toList) = L := by
  rw [List.map_map]
  exact List.map_id _
theorem joinS_split (s : ByteArray) : joinS (splitC 32 s) = s := by
  refine eqS.1 ?_
  show Lib.join ((splitC 32 s).map (·.data.toList)) [32] = _
  rw [lib_join, splitC, map_bytes, join_split]
theorem splitC_join {ss : List ByteArray} (hne : ss ≠ []) (h : wordsB ss = true) : splitC 32 (joinS ss) = ss := by
  rw [wordsB, List.all_eq_true] at h
  have e : (joinS ss).data.toList = joinL 32 (ss.map (·.data.toList)) := lib_join 32 _
  rw [splitC, e, split_join (by simpa using hne) fun p hp x hx => by
    obtain ⟨s, hs, rfl⟩ := List.mem_map.1 hp
    exact word_nosp (h s hs) x hx]
  rw [List.map_map]
  exact List.map_id _
theorem phrase_join {ss : List ByteArray} (hne : ss ≠ []) (h : wordsB ss = true) (h8 : ss.length ≤ 8) : phraseB (joinS ss) = true := by
  rw [phraseB, splitC_join hne h, h]
  simpa using h8
theorem joinS_cons {x : ByteArray} {r : List ByteArray} (hr : r ≠ []) : joinS (x :: r) = x ++ blank ++ joinS r := by
  obtain ⟨y, q, rfl⟩ := List.exists_cons_of_ne_nil hr
  refine eqS.1 ?_
  have e : (joinS (x :: y :: q)).data.toList = joinL 32 ((x :: y :: q).map (·.data.toList)) := lib_join 32 _
  have e2 : (joinS (y :: q)).data.toList = joinL 32 ((y :: q).map (·.data.toList)) := lib_join 32 _
  rw [e, ByteArray.data_append, ByteArray.data_append, Array.toList_append, Array.toList_append, e2]
  simp only [List.map_cons, joinL, List.append_assoc]
  rfl
theorem joinS_snoc {x : ByteArray} {r : List ByteArray} (hr : r ≠ []) : joinS (r ++ [x]) = joinS r ++ blank ++ x := by
  refine eqS.1 ?_
  show Lib.join ((r ++ [x]).map (·.data.toList)) [32] = _
  rw [List.map_append, List.map_singleton, join_snoc _ _ _ (by simpa using hr), ByteArray.data_append, ByteArray.data_append, Array.toList_append, Array.toList_append]
  rfl
theorem wordsB_mem {ss : List ByteArray} : wordsB ss = true ↔ ∀ s ∈ ss, wordB s = true := by rw [wordsB, List.all_eq_true]
theorem together_gen {p g : ByteArray} (h : g ≠ ⟨#[]⟩) : together ⟨p, g⟩ true = g ++ blank ++ p ∧ together ⟨p, g⟩ false = p ++ blank ++ g := by
  rw [together_ne p true h, together_ne p false h]
  exact ⟨rfl, rfl⟩
theorem part_words {ps : List ByteArray} {g : ByteArray} (hne : ps ≠ []) (hw : wordsB ps = true) (hg : wordB g = true) (h8 : ps.length ≤ 7) (f : Bool) : togetherB ⟨joinS ps, g⟩ f = true := by
  have hgn := word_ne hg
  have hp : phraseB (together ⟨joinS ps, g⟩ f) = true := by
    cases f
    · rw [(together_gen hgn).2, ← joinS_snoc hne]
      exact phrase_join (by simp) (wordsB_mem.2 fun s hs => (List.mem_append.1 hs).elim (wordsB_mem.1 hw s) fun h => by rw [List.mem_singleton.1 h]; exact hg) (by simp; omega)
    · rw [(together_gen hgn).1, ← joinS_cons hne]
      exact phrase_join (by simp) (wordsB_mem.2 fun s hs => (List.mem_cons.1 hs).elim (fun h => by rw [h]; exact hg) (wordsB_mem.1 hw s)) (by simp; omega)
  rw [togetherB, hp, partsB]
  simp only
  rw [phrase_join hne hw (by omega), hg]
  simp
/-- What is taken apart is put together. -/
theorem apart_law {gs : List ByteArray} {s : ByteArray} (hg : genericsB gs = true) (hp : phraseB s = true) :
    togetherB (apartP gs s) true = true ∧ togetherB (apartP gs s) false = true ∧ together (apartP gs s) (apartF gs s) = s ∧ ((apartP gs s).gen = ⟨#[]⟩ ∨ hasS gs (apartP gs s).gen = true) := by
  obtain ⟨h8, hw⟩ := phrase_words hp
  have hj := joinS_split s
  have hmem := wordsB_mem.1 hw
  rw [apartP, apartF]
  by_cases h1 : 1 < (splitC 32 s).length ∧ hasS gs (nthS (splitC 32 s) ((splitC 32 s).length - 1)) = true
  · rw [if_pos h1, if_pos h1]
    have hlast : wordB (nthS (splitC 32 s) ((splitC 32 s).length - 1)) = true := hmem _ (nthS_mem (by omega))
    have hne : (splitC 32 s).take ((splitC 32 s).length - 1) ≠ [] := fun h => by
      have := congrArg List.length h
      simp at this; omega
    have hws : wordsB ((splitC 32 s).take ((splitC 32 s).length - 1)) = true := wordsB_mem.2 fun x hx => hmem x (List.mem_of_mem_take hx)
    refine ⟨part_words hne hws hlast (by simp; omega) true, part_words hne hws hlast (by simp; omega) false, ?_, .inr h1.2⟩
    rw [(together_gen (word_ne hlast)).2, ← joinS_snoc hne]
    have e : (splitC 32 s).take ((splitC 32 s).length - 1) ++ [nthS (splitC 32 s) ((splitC 32 s).length - 1)] = splitC 32 s := by
      rw [nthS_eq (by omega), ← List.take_succ_eq_append_getElem (by omega), Nat.sub_add_cancel (by omega), List.take_length]
    rw [e]; exact hj
  · rw [if_neg h1, if_neg h1]
    by_cases h2 : 1 < (splitC 32 s).length ∧ hasS gs (nthS (splitC 32 s) 0) = true
    · rw [if_pos h2, if_pos h2]
      have hfirst : wordB (nthS (splitC 32 s) 0) = true := hmem _ (nthS_mem (by omega))
      have hne : (splitC 32 s).drop 1 ≠ [] := fun h => by
        have := congrArg List.length h
        simp at this; omega
      have hws : wordsB ((splitC 32 s).drop 1) = true := wordsB_mem.2 fun x hx => hmem x (List.mem_of_mem_drop hx)
      refine ⟨part_words hne hws hfirst (by simp; omega) true, part_words hne hws hfirst (by simp; omega) false, ?_, .inr h2.2⟩
      rw [(together_gen (word_ne hfirst)).1, ← joinS_cons hne]
      have e : nthS (splitC 32 s) 0 :: (splitC 32 s).drop 1 = splitC 32 s := by
        rw [nthS_eq (by omega)]
        have := List.drop_eq_getElem_cons (l := splitC 32 s) (i := 0) (by omega)
        rw [List.drop_zero] at this
        exact this.symm
      rw [e]; exact hj
    · rw [if_neg h2, if_neg h2]
      have e : ∀ f, together ⟨s, ⟨#[]⟩⟩ f = s := fun f => by rw [together, if_pos rfl]
      have t : ∀ f, togetherB ⟨s, ⟨#[]⟩⟩ f = true := fun f => by
        rw [togetherB, e f, partsB]
        simp only
        rw [hp]; simp
      exact ⟨t true, t false, e false, .inl rfl⟩
/-- Generics translated to themselves give the phrase. -/
theorem translate_same {gs ts : List ByteArray} {s : ByteArray} (h : trC gs ts s = 0) : takeC gs s = 0 ∧ trC gs gs s = 0 ∧ trS gs gs s = s ∧ ((takeP gs s).gen = ⟨#[]⟩ → trS gs ts s = s) := by
  have hB : trB gs ts s = true := by
    cases hb : trB gs ts s
    · rw [(tr_bad hb).2] at h; exact absurd h (by decide)
    · rfl
  have hlen : gs.length = ts.length := by
    rw [trC, if_pos hB] at h
    apply Classical.byContradiction
    intro hn
    rw [if_neg hn] at h; exact absurd h (by decide)
  have hB2 := hB
  rw [trB, Bool.and_eq_true, Bool.and_eq_true] at hB2
  obtain ⟨⟨hg, ht⟩, hp⟩ := hB2
  have htk : takeB gs s = true := by rw [takeB, hg, hp]; rfl
  have hgg : trB gs gs s = true := by rw [trB, hg, hp]; rfl
  obtain ⟨l1, l2, l3, l4⟩ := apart_law hg hp
  obtain ⟨t1, t2⟩ := take_good htk
  rw [t1]
  have hid : ∀ us, trB gs us s = true → gs.length = us.length → (apartP gs s).gen = ⟨#[]⟩ → trS gs us s = s := fun us hu hl he => by
    rw [trS, if_pos ⟨hu, hl⟩, if_pos he]
  refine ⟨t2, by rw [trC, if_pos hgg, if_pos rfl], ?_, hid ts hB hlen⟩
  rcases apart_cases s hg with ⟨h1, h2⟩ | ⟨h1, k, hk, h2⟩
  · exact hid gs hgg rfl (by rw [h1])
  · rw [trS, if_pos ⟨hgg, rfl⟩, if_neg h1, h2]
    obtain ⟨_, hn, _⟩ := idxS_of h2
    rw [show ((k : Nat) : Int).toNat = k by simp, hn]
    exact l3
end Go.Proofs.YtfglmoedicijkaaDoor
