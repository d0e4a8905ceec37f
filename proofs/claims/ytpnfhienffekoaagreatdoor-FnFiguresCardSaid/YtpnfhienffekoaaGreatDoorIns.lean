/- Contracts of the functions that put a star into a list. -/
import Derived.Test.YtpnfhienffekoaaGreatDoorDrop
import Derived.Test.YtpnfhienffekoaaGreatDoorGrpList
import Derived.Shelf.Spec.SlicesInsert
import Derived.Lib.AppendZerosOnto
namespace Go.Proofs.YtpnfhienffekoaaGreatDoor
set_option linter.unusedVariables false
set_option linter.unusedSimpArgs false
open Go.RowKit
theorem staCells_one (l : List Sta) : ∀ u ∈ staCells l, u.oneCell' = true := fun u hu => by
  simp only [staCells, List.mem_flatMap, Sta.cells, List.mem_cons, List.not_mem_nil, or_false] at hu
  obtain ⟨x, _, h | h | h | h | h⟩ := hu <;> subst h <;> rfl
/-- stars are copied into a row -/
theorem run_copy_stars (w : World) (ty g o dLen dCap : Nat) (a : Addr) (sLen sCap : Nat) (cur cs : List Value) (hB : Blk w g 46 cur) (hn : cs.length = Nat.min sLen dLen * 5)
    (hsrc : ∀ j v, cs[j]? = some v → w.cell? (a.add j) = some v) (hfit : o + cs.length ≤ cur.length) (h1 : ∀ v ∈ cs, v.oneCell' = true) :
    (Builtin.copy_ #[42, 42] ty #[.slice (some ⟨g, o, none⟩) dLen dCap, .slice (some a) sLen sCap]).run Tryz.prog w = .ok (goInt (Nat.min sLen dLen)) (w.setCells g o cs) := by
  obtain ⟨i0, hi0, hz0, hz1, hz2⟩ := info_parts info_star
  have hl := run_loadCells_list (P := Tryz.prog) w a cs hsrc
  have hst := run_storeCells_cells (P := Tryz.prog) g o cs 0 w (fun j hj => by rw [hB.cell, List.getElem?_eq_getElem (by omega)]; rfl) (fun j _ => hB.frozen _) h1
  simp only [Nat.add_zero] at hst
  have hm : Nat.min sLen dLen = min sLen dLen := rfl
  rw [hm] at hn
  simp [Builtin.copy_, run_underlying Tryz.underlying42, Builtin.lenOf, Builtin.firstCells, sizeOf, typeInfo, hi0, hz1, ← hn, hl, hst, hm]
theorem sizeOf_star (w : World) : (Go.sizeOf 46).run Tryz.prog w = .ok 5 w := by
  obtain ⟨i0, hi0, hz0, hz1, hz2⟩ := info_parts info_star
  simp [sizeOf, typeInfo, hi0, hz1]
theorem Blk.shape {w : World} {g : Nat} {t : TypeId} {cs : List Value} (h : Blk w g t cs) : w.shape? g = some (t, cs.length) := by
  have h' : w.heap[g]? = some (.cells cs.toArray t (0, 0)) := h
  simp [World.shape?, h']
theorem run_overlaps_star (w : World) (q g o lb cb : Nat) (x : Sta) (cs : List Value) (hQ : Blk w q 46 (staCells [x])) (hB : Blk w g 46 cs) (hne : q ≠ g) (hc : 0 < cs.length) :
    (callFunc 112 #[.slice (some ⟨q, 0, none⟩) 1 1, .slice (some ⟨g, o, none⟩) lb cb]).run Tryz.prog w = .ok (.value (.bool false)) w := by
  rw [run_callFunc_extern Tryz.func112 (by kernel_rfl) (by kernel_rfl) (by kernel_rfl) (e := Extern.SlicesOverlaps.overlaps #[42, 42] #[4]) (by kernel_rfl),
    Lib.run_overlaps_apart w 42 4 46 Tryz.underlying42 5 sizeOf_star ⟨q, 0, none⟩ ⟨g, o, none⟩ 1 1 lb cb hne 46 46 _ _ hQ.shape hB.shape (by omega) (hQ.frozen 0) (hQ.frozen _)]
  rfl
theorem insert_row {l : List Sta} {cs : List Value} {n k : Nat} {x : Sta} (hl : l.length = n) (hk : k ≤ n) (h2 : (n + 1) * 5 ≤ cs.length) (h6 : cs.take (k * 5) = staCells (l.take k)) :
    (layAt (layAt cs ((k + 1) * 5) (staCells (l.drop k))) (k * 5) (staCells [x])).take ((n + 1) * 5) = staCells (l.take k ++ ([x] ++ l.drop k)) := by
  have hnl : (staCells (l.drop k)).length = (n - k) * 5 := by rw [staCells_length, List.length_drop, hl]
  have hz : (staCells [x]).length = 5 := rfl
  have htl : (staCells (l.take k)).length = k * 5 := by rw [staCells_length, List.length_take, hl]; omega
  rw [staCells_append, staCells_append]
  apply List.ext_getElem?
  intro i
  rw [List.getElem?_take]
  by_cases hi : i < (n + 1) * 5
  · rw [if_pos hi, layAt_at _ _ _ _ (by rw [layAt_length]; omega), layAt_at _ _ _ _ (by omega)]
    by_cases h : i < k * 5
    · rw [if_neg (by omega), if_neg (by omega), List.getElem?_append_left (by omega), ← h6, List.getElem?_take, if_pos h]
    · rw [List.getElem?_append_right (by omega), htl]
      by_cases h' : i < k * 5 + 5
      · rw [if_pos (by omega), List.getElem?_append_left (by omega)]
      · rw [if_neg (by omega), if_pos (by omega), List.getElem?_append_right (by omega), hz]; congr 1; omega
  · rw [if_neg hi, List.getElem?_eq_none (by rw [List.length_append, List.length_append]; omega)]
set_option maxRecDepth 100000 in
set_option maxHeartbeats 4000000 in
theorem InsertS_room (base g n cap k q : Nat) (l : List Sta) (x : Sta) (w : World) (hown : OwnS w base (.slice (some ⟨g, 0, none⟩) n cap) l) (hl : l.length = n) (hn : n ≤ 1000000000000) (hk : k < n) (hroom : n + 1 ≤ cap) (hQ : Blk w q 46 (staCells [x])) (hne : q ≠ g) :
    Calls Tryz.prog 69 #[.slice (some ⟨g, 0, none⟩) n cap, .int .i64 k, .slice (some ⟨q, 0, none⟩) 1 1] w fun e w' => e = .returned (.slice (some ⟨g, 0, none⟩) (n + 1) cap) ∧ OwnS w' base (.slice (some ⟨g, 0, none⟩) (n + 1) cap) (l.take k ++ ([x] ++ l.drop k)) ∧ w.grownBy w' (some g) := by
  have HL := Lib.hid hl; clear hl
  rcases hown.blk with ⟨h, _⟩ | ⟨g', cap', cs, he, hb, hB, h2, h3, h4, h5, h6⟩
  · cases h
  obtain ⟨rfl, rfl⟩ : g = g' ∧ cap = cap' := by injection he with h1 h2 h3; injection h1 with h1; injection h1 with h1; exact ⟨h1, h3⟩
  rw [HL.out] at h2 h4 h6
  clear he
  have hm : cap ≤ 9223372036854775807 := by simp only [maxLen] at h3; omega
  have hnl : (staCells (l.drop k)).length = (n - k) * 5 := by rw [staCells_length, List.length_drop, HL.out]
  have hmin1 : Nat.min (n + 1 - k) (n + 1 - (k + 1)) = n - k := by simp only [Nat.min_def]; split <;> omega
  have hmin2 : Nat.min 1 (n + 1 - k) = 1 := by simp only [Nat.min_def]; split <;> omega
  have hB0 : Blk w.drew g 46 cs := hB
  have hcp1 : ∀ ty dc sc, (Builtin.copy_ #[42, 42] ty #[.slice (some ⟨g, (k + 1) * 5, none⟩) (n + 1 - (k + 1)) dc, .slice (some ⟨g, k * 5, none⟩) (n + 1 - k) sc]).run Tryz.prog w.drew = .ok (goInt (Nat.min (n + 1 - k) (n + 1 - (k + 1)))) (w.drew.setCells g ((k + 1) * 5) (staCells (l.drop k))) := fun ty dc sc =>
    run_copy_stars w.drew ty g _ _ dc ⟨g, k * 5, none⟩ _ sc cs _ hB0 (by rw [hmin1]; exact hnl) (fun j v hj => by
      rw [addr_add, hB0.cell]
      rw [staCells_drop, List.getElem?_drop, ← h6, List.getElem?_take] at hj
      split at hj
      · exact hj
      · cases hj) (by omega) (staCells_one _)
  have hD1 : Blk (w.drew.setCells g ((k + 1) * 5) (staCells (l.drop k))) g 46 (layAt cs ((k + 1) * 5) (staCells (l.drop k))) := hB0.setCells _ _
  have hG1 : w.grownBy (w.drew.setCells g ((k + 1) * 5) (staCells (l.drop k))) (some g) := only_setCells _ _ (only_drew (World.grownBy.refl w _))
  have hQ1 : Blk (w.drew.setCells g ((k + 1) * 5) (staCells (l.drop k))) q 46 (staCells [x]) := (hG1.block q hQ.lt (fun e => hne (by injection e))).trans hQ
  obtain ⟨W1, hW1⟩ : ∃ W1, W1 = w.drew.setCells g ((k + 1) * 5) (staCells (l.drop k)) := ⟨_, rfl⟩
  rw [← hW1] at hD1 hG1 hQ1 hcp1
  clear hW1
  have hD1l : (layAt cs ((k + 1) * 5) (staCells (l.drop k))).length = cap * 5 := by rw [layAt_length]; exact h5
  have hcp2 : ∀ ty dc, (Builtin.copy_ #[42, 42] ty #[.slice (some ⟨g, k * 5, none⟩) (n + 1 - k) dc, .slice (some ⟨q, 0, none⟩) 1 1]).run Tryz.prog W1 = .ok (goInt (Nat.min 1 (n + 1 - k))) (W1.setCells g (k * 5) (staCells [x])) := fun ty dc =>
    run_copy_stars W1 ty g _ _ dc ⟨q, 0, none⟩ _ 1 _ _ hD1 (by rw [hmin2]; rfl) (fun j v hj => by rw [addr_add, hQ1.cell]; simpa using hj) (by have : (staCells [x]).length = 5 := rfl; omega) (staCells_one _)
  have hD2 := hD1.setCells (staCells [x]) (k * 5)
  have hG2 := only_setCells (staCells [x]) (k * 5) hG1
  have hov := fun lb cb => run_overlaps_star w q g ((k + 1) * 5) lb cb x cs hQ hB hne (by omega)
  have hle : (l.take k ++ ([x] ++ l.drop k)).length = n + 1 := by simp [HL.out]; omega
  have h6k : cs.take (k * 5) = staCells (l.take k) := by rw [staCells_take, ← h6, List.take_take, Nat.min_eq_left (by omega)]
  have END : Hid (OwnS (W1.setCells g (k * 5) (staCells [x])) base (.slice (some ⟨g, 0, none⟩) (n + 1) cap) (l.take k ++ ([x] ++ l.drop k))) := by
    have := OwnS.of_blk (l := l.take k ++ ([x] ++ l.drop k)) hb hD2 (by rw [hle]; omega) h3 (by rw [layAt_length, layAt_length]; exact h5) (by rw [hle]; exact insert_row HL.out (by omega) (by omega) h6k)
    rw [hle] at this; exact this
  have HCP1 := Lib.hid hcp1
  have HCP2 := Lib.hid hcp2
  have HG2 := Lib.hid hG2
  clear hcp1 hcp2 hG2 hle h6k h6 h5 h2 hnl hmin1 hmin2 hB0 hD1 hG1 hQ1 hD1l hD2 hQ hB hown h3 hb
  have hw1 : IntKind.i64.wrap ((k : Int) + 1) = (k : Int) + 1 := by rw [IntKind.wrap_i64]; omega
  have hz2 : ¬ ((k : Int) = (n : Int)) := by omega
  have hz3 : ¬ ((cap : Int) < (n : Int) + 1) := by omega
  have hp0 : (0 : Int) ≤ (k : Int) + 1 := by omega
  have hp1 : (k : Int) + 1 ≤ (n : Int) + 1 := by omega
  have hp2 : ((k : Int) + 1).toNat = k + 1 := by omega
  have hp3 : (k : Int) ≤ (n : Int) + 1 := by omega
  have hp4 : ¬ (cap = k + 1) := by omega
  have hp5 : ¬ (cap = k) := by omega
  have hp6 : (0 : Int) ≤ (n : Int) + 1 := by omega
  have hp7 : ((n : Int) + 1).toNat = n + 1 := by omega
  have hp8 : n + 1 ≤ cap := hroom
  have hp9 : (n : Int) + 1 ≤ (cap : Int) := by omega
  go_enter Tryz.func69, Tryz.ntmps69
  go_wp2_with (simp only [hov])
  go_region_law (refine step_copy_runI rfl (.tmp 73) (.tmp 76) 42 42 rfl (.slice (some ⟨g, (k + 1) * 5, none⟩) (n + 1 - (k + 1)) (cap - (k + 1))) (.slice (some ⟨g, k * 5, none⟩) (n + 1 - k) (cap - k)) (by simp [Act.eval, Act.put]) (by simp [Act.eval, Act.put]) (HCP1.out _ _ _) ?_)
  go_wp2_with (with_reducible refine wpList_copy_runI _ rfl (.tmp 80) (.tmp 81) 42 42 rfl (.slice (some ⟨g, k * 5, none⟩) (n + 1 - k) (cap - k)) (.slice (some ⟨q, 0, none⟩) 1 1) rfl rfl (HCP2.out _ _) ?_)
  go_ret
  exact ⟨rfl, END.out, HG2.out⟩
theorem zeroCells_size (z : Array Value) (n : Nat) : (Builtin.zeroCells z n).size = n * z.size := by simp [Builtin.zeroCells]
theorem insert_row2 {l : List Sta} {cs : List Value} {n k : Nat} {x : Sta} (hl : l.length = n) (hk : k ≤ n) (h2 : (n + 1) * 5 ≤ cs.length) (h6 : cs.take (k * 5) = staCells (l.take k)) :
    (layAt (layAt cs (k * 5) (staCells [x])) ((k + 1) * 5) (staCells (l.drop k))).take ((n + 1) * 5) = staCells (l.take k ++ ([x] ++ l.drop k)) := by
  have hnl : (staCells (l.drop k)).length = (n - k) * 5 := by rw [staCells_length, List.length_drop, hl]
  have hz : (staCells [x]).length = 5 := rfl
  have htl : (staCells (l.take k)).length = k * 5 := by rw [staCells_length, List.length_take, hl]; omega
  rw [staCells_append, staCells_append]
  apply List.ext_getElem?
  intro i
  rw [List.getElem?_take]
  by_cases hi : i < (n + 1) * 5
  · rw [if_pos hi, layAt_at _ _ _ _ (by rw [layAt_length]; omega), layAt_at _ _ _ _ (by omega)]
    by_cases h : i < k * 5
    · rw [if_neg (by omega), if_neg (by omega), List.getElem?_append_left (by omega), ← h6, List.getElem?_take, if_pos h]
    · rw [List.getElem?_append_right (by omega), htl]
      by_cases h' : i < k * 5 + 5
      · rw [if_neg (by omega), if_pos (by omega), List.getElem?_append_left (by omega)]
      · rw [if_pos (by omega), List.getElem?_append_right (by omega), hz]; congr 1; omega
  · rw [if_neg hi, List.getElem?_eq_none (by rw [List.length_append, List.length_append]; omega)]
set_option maxRecDepth 100000 in
set_option maxHeartbeats 4000000 in
theorem InsertS_grow (base g n cap k q : Nat) (l : List Sta) (x : Sta) (w : World) (hown : OwnS w base (.slice (some ⟨g, 0, none⟩) n cap) l) (hl : l.length = n) (hn : n ≤ 1000000000) (hk : k < n) (hroom : cap < n + 1) (hQ : Blk w q 46 (staCells [x])) (hbase : base ≤ w.heap.size) :
    Calls Tryz.prog 69 #[.slice (some ⟨g, 0, none⟩) n cap, .int .i64 k, .slice (some ⟨q, 0, none⟩) 1 1] w fun e w' => ∃ G, e = .returned (.slice (some ⟨w.heap.size, 0, none⟩) (n + 1) G) ∧ OwnS w' base (.slice (some ⟨w.heap.size, 0, none⟩) (n + 1) G) (l.take k ++ ([x] ++ l.drop k)) ∧ Below w.heap.size w w' := by
  have HL := Lib.hid hl; clear hl
  obtain ⟨i0, hi0, hz0, hz1, hz2⟩ := info_parts info_star
  rcases hown.blk with ⟨h, _⟩ | ⟨g', cap', cs, he, hb, hB, h2, h3, h4, h5, h6⟩
  · cases h
  obtain ⟨rfl, rfl⟩ : g = g' ∧ cap = cap' := by injection he with h1 h2 h3; injection h1 with h1; injection h1 with h1; exact ⟨h1, h3⟩
  rw [HL.out] at h2 h4 h6
  clear he
  have hnl : (staCells (l.drop k)).length = (n - k) * 5 := by rw [staCells_length, List.length_drop, HL.out]
  have htl : (staCells (l.take k)).length = k * 5 := by rw [staCells_length, List.length_take, HL.out]; omega
  have hB0 : Blk w.drew g 46 cs := hB
  have hkk : (n : Int) + 1 - (k : Int) = ((n + 1 - k : Nat) : Int) := by omega
  have hik : k + (n + 1 - k) = n + 1 := by omega
  have hold : (Builtin.firstCells i0.size k (.slice (some ⟨g, 0, none⟩) k cap)).run Tryz.prog w.drew = .ok (staCells (l.take k)).toArray w.drew := by
    rw [hz1]
    exact run_firstCells_some w.drew 5 k ⟨g, 0, none⟩ k cap (staCells (l.take k)) htl (fun j v hj => by
      rw [addr_add, hB0.cell, Nat.zero_add]
      rw [staCells_take, ← h6, List.getElem?_take] at hj
      split at hj
      · rw [List.getElem?_take] at hj
        split at hj
        · exact hj
        · cases hj
      · cases hj)
  obtain ⟨Z, hZ, hZs⟩ : ∃ Z : Value, i0.zero = some Z ∧ Z.cells.size = 5 := ⟨_, hz0, rfl⟩
  obtain ⟨G, hG⟩ : ∃ G, G = grownCap w (n + 1) cap 46 := ⟨_, rfl⟩
  have hGn : n + 1 ≤ G := by rw [hG]; exact grownCap_ge w _ _ _
  have hGm : G ≤ maxLen := by rw [hG]; exact grownCap_le_maxLen w _ _ _ (by simp only [maxLen]; omega)
  obtain ⟨ROW, hROW⟩ : ∃ ROW : Array Value, ROW = (staCells (l.take k)).toArray ++ Builtin.zeroCells Z.cells (n + 1 - k) ++ Builtin.zeroCells Z.cells (G - (n + 1)) := ⟨_, rfl⟩
  have hRl : ROW.toList.length = G * 5 := by
    rw [hROW, Array.length_toList, Array.size_append, Array.size_append, zeroCells_size, zeroCells_size, hZs, List.size_toArray, htl]; omega
  have hRt : ROW.toList.take (k * 5) = staCells (l.take k) := by
    rw [hROW]
    simp only [Array.toList_append, List.append_assoc]
    rw [← htl]; exact List.take_left
  have hrz : ∀ ty, (Builtin.append_ #[42, 3] ty #[.slice (some ⟨g, 0, none⟩) k cap, .int .i64 ((n : Int) + 1 - (k : Int))]).run Tryz.prog w = .ok (.slice (some ⟨w.heap.size, 0, none⟩) (n + 1) G) (w.drew.alloc (.cells ROW 46)) := fun ty => by
    have h := Lib.run_append_grow_zeros w 42 3 ty 46 i0 Z .i64 .i64 Tryz.underlying42 Tryz.underlying3 hi0 hZ (some ⟨g, 0, none⟩) k cap (staCells (l.take k)) hold (n + 1 - k) (by omega) (by omega) (by omega) (by omega) (by rw [hz2]; omega) (by rw [hz2, hik]; exact growslice_fits hroom (by omega))
    rw [hik] at h
    rw [hkk, hROW, hG]
    exact h
  obtain ⟨W1, hW1⟩ : ∃ W1, W1 = w.drew.alloc (.cells ROW 46) := ⟨_, rfl⟩
  rw [← hW1] at hrz
  have hN1 : Blk W1 w.heap.size 46 ROW.toList := by rw [hW1]; exact Blk.new w.drew 46 ROW.toList
  have hb1 : Below w.heap.size w W1 := by rw [hW1]; exact below_alloc (below_drew0 (Below.refl _ _)) _
  have hQ1 : Blk W1 q 46 (staCells [x]) := hQ.keep hb1
  have hB1 : Blk W1 g 46 cs := hB.keep hb1
  clear hW1
  have hgN : g < w.heap.size := hB.lt
  have hmin1 : Nat.min 1 (n + 1 - k) = 1 := by simp only [Nat.min_def]; split <;> omega
  have hmin2 : Nat.min (n - k) (n + 1 - (k + 1)) = n - k := by simp only [Nat.min_def]; split <;> omega
  have hz5 : (staCells [x]).length = 5 := rfl
  have hcp1 : ∀ ty dc, (Builtin.copy_ #[42, 42] ty #[.slice (some ⟨w.heap.size, k * 5, none⟩) (n + 1 - k) dc, .slice (some ⟨q, 0, none⟩) 1 1]).run Tryz.prog W1 = .ok (goInt (Nat.min 1 (n + 1 - k))) (W1.setCells w.heap.size (k * 5) (staCells [x])) := fun ty dc =>
    run_copy_stars W1 ty w.heap.size _ _ dc ⟨q, 0, none⟩ _ 1 _ _ hN1 (by rw [hmin1]; rfl) (fun j v hj => by rw [addr_add, hQ1.cell]; simpa using hj) (by omega) (staCells_one _)
  obtain ⟨W2, hW2⟩ : ∃ W2, W2 = W1.setCells w.heap.size (k * 5) (staCells [x]) := ⟨_, rfl⟩
  have hN2 : Blk W2 w.heap.size 46 (layAt ROW.toList (k * 5) (staCells [x])) := by rw [hW2]; exact hN1.setCells _ _
  have hG2 : W1.grownBy W2 (some w.heap.size) := by rw [hW2]; exact only_setCells _ _ (World.grownBy.refl W1 _)
  have hB2 : Blk W2.drew g 46 cs := (hG2.block g hB1.lt (fun e => by injection e; omega)).trans hB1
  have hb2 : Below w.heap.size w W2 := below_of_grown hb1 hG2 hb1.size (fun q hq => by injection hq with hq; omega)
  rw [← hW2] at hcp1
  clear hW2
  have hN2d : Blk W2.drew w.heap.size 46 (layAt ROW.toList (k * 5) (staCells [x])) := hN2
  have hl2 : (layAt ROW.toList (k * 5) (staCells [x])).length = G * 5 := by rw [layAt_length]; exact hRl
  have hcp2 : ∀ ty dc sc, (Builtin.copy_ #[42, 42] ty #[.slice (some ⟨w.heap.size, (k + 1) * 5, none⟩) (n + 1 - (k + 1)) dc, .slice (some ⟨g, k * 5, none⟩) (n - k) sc]).run Tryz.prog W2.drew = .ok (goInt (Nat.min (n - k) (n + 1 - (k + 1)))) (W2.drew.setCells w.heap.size ((k + 1) * 5) (staCells (l.drop k))) := fun ty dc sc =>
    run_copy_stars W2.drew ty w.heap.size _ _ dc ⟨g, k * 5, none⟩ _ sc _ _ hN2d (by rw [hmin2]; exact hnl) (fun j v hj => by
      rw [addr_add, hB2.cell]
      rw [staCells_drop, List.getElem?_drop, ← h6, List.getElem?_take] at hj
      split at hj
      · exact hj
      · cases hj) (by omega) (staCells_one _)
  have hD3 := hN2d.setCells (staCells (l.drop k)) ((k + 1) * 5)
  have hle : (l.take k ++ ([x] ++ l.drop k)).length = n + 1 := by simp [HL.out]; omega
  have END : Hid (OwnS (W2.drew.setCells w.heap.size ((k + 1) * 5) (staCells (l.drop k))) base (.slice (some ⟨w.heap.size, 0, none⟩) (n + 1) G) (l.take k ++ ([x] ++ l.drop k))) := by
    have := OwnS.of_blk (l := l.take k ++ ([x] ++ l.drop k)) hbase hD3 (by rw [hle]; omega) hGm (by rw [layAt_length, layAt_length]; exact hRl) (by rw [hle]; exact insert_row2 HL.out (by omega) (by omega) hRt)
    rw [hle] at this; exact this
  have END2 : Hid (Below w.heap.size w (W2.drew.setCells w.heap.size ((k + 1) * 5) (staCells (l.drop k)))) :=
    below_of_grown hb2 (only_setCells _ _ (only_drew (World.grownBy.refl W2 _))) hb2.size (fun q hq => by injection hq with hq; omega)
  have HCP1 := Lib.hid hcp1
  have HCP2 := Lib.hid hcp2
  have HRZ := Lib.hid hrz
  have hGG : G ≤ 9223372036854775807 := by simp only [maxLen] at hGm; omega
  clear hcp1 hcp2 hrz hle h6 h5 h2 hnl htl hmin1 hmin2 hB0 hD3 hG2 hQ1 hl2 hN2 hN2d hN1 hB1 hB2 hQ hB hown h3 hb hkk hik hold hROW hG hRl hRt hZs hZ hz0 hz1 hz2 hz5
  have hw1 : IntKind.i64.wrap ((k : Int) + 1) = (k : Int) + 1 := by rw [IntKind.wrap_i64]; omega
  have hz2 : ¬ ((k : Int) = (n : Int)) := by omega
  have hz3 : (cap : Int) < (n : Int) + 1 := by omega
  have hp0 : (0 : Int) ≤ (k : Int) + 1 := by omega
  have hp1 : (k : Int) + 1 ≤ (n : Int) + 1 := by omega
  have hp2 : ((k : Int) + 1).toNat = k + 1 := by omega
  have hp3 : (k : Int) ≤ (n : Int) + 1 := by omega
  have hp4 : ¬ (G = k + 1) := by omega
  have hp5 : ¬ (G = k) := by omega
  have hp6 : ¬ (cap = k) := by omega
  have hp7 : k ≤ cap := by omega
  have hp8 : (k : Int) ≤ (n : Int) := by omega
  go_enter Tryz.func69, Tryz.ntmps69
  go_wp2_with (first
    | (at_builtin; refine Lib.wpList_append_run _ rfl (.tmp 34) (.tmp 39) _ _ rfl _ _ rfl rfl _ _ (HRZ.out _) ?_)
    | (with_reducible refine wpList_copy_runI _ rfl (.tmp 43) (.tmp 44) 42 42 rfl (.slice (some ⟨w.heap.size, k * 5, none⟩) (n + 1 - k) (G - k)) (.slice (some ⟨q, 0, none⟩) 1 1) rfl rfl (HCP1.out _ _) ?_))
  go_region_law (refine step_copy_runI rfl (.tmp 50) (.tmp 53) 42 42 rfl (.slice (some ⟨w.heap.size, (k + 1) * 5, none⟩) (n + 1 - (k + 1)) (G - (k + 1))) (.slice (some ⟨g, k * 5, none⟩) (n - k) (cap - k)) (by simp [Act.eval, Act.put]) (by simp [Act.eval, Act.put]) (HCP2.out _ _ _) ?_)
  go_wp2
  go_ret
  exact ⟨G, rfl, END.out, END2.out⟩
set_option maxRecDepth 100000 in
set_option maxHeartbeats 4000000 in
theorem InsertS_end (base n q : Nat) (v : Value) (l : List Sta) (x : Sta) (w : World) (hown : OwnS w base v l) (hl : l.length = n) (hn : n ≤ 1000000000) (hQ : Blk w q 46 (staCells [x])) (hbase : base ≤ w.heap.size) :
    Calls Tryz.prog 69 #[v, .int .i64 n, .slice (some ⟨q, 0, none⟩) 1 1] w fun e w' => ∃ v', e = .returned v' ∧ OwnS w' base v' (l ++ [x]) ∧ w.grownBy w' v.ownBlock := by
  have hS : Stars w (some ⟨q, 0, none⟩) [x] := hQ.stars
  have hl1 : l.length + 1 ≤ 1099511627776 := by omega
  have HOWN := Lib.hid hown
  rcases hown.blk with ⟨rfl, rfl⟩ | ⟨g, cap, cs, rfl, hb, hB, h2, h3, h4, h5, h6⟩
  · simp only [List.length_nil] at hl; subst hl
    clear hown hQ
    go_enter Tryz.func69, Tryz.ntmps69
    go_wp2_with (at_builtin; refine wpList_app_stars rfl (.tmp 23) (.tmp 24) rfl base _ [] [x] (some ⟨q, 0, none⟩) 1 1 rfl rfl HOWN.out rfl hS (fun h => by cases h) hl1 hbase ?_; intro v4 w4 hO4 hg4)
    go_ret
    exact ⟨_, rfl, hO4, hg4⟩
  · rw [hl] at HOWN h2 h4 h6 ⊢
    have hm : cap ≤ 9223372036854775807 := by simp only [maxLen] at h3; omega
    have hl2 : l.length + 1 ≤ 1099511627776 := by omega
    clear hown hQ hB h6 h5 h3 h2 hb
    go_enter Tryz.func69, Tryz.ntmps69
    go_wp2_with (at_builtin; refine wpList_app_stars rfl (.tmp 23) (.tmp 24) rfl base _ l [x] (some ⟨q, 0, none⟩) 1 1 rfl rfl HOWN.out rfl hS (fun h => by cases h) hl2 hbase ?_; intro v4 w4 hO4 hg4)
    all_goals
      go_ret
      exact ⟨_, rfl, hO4, hg4⟩
/-- slices.Insert of one star -/
theorem InsertS_any (base n k q : Nat) (v : Value) (l : List Sta) (x : Sta) (w : World) (hown : OwnS w base v l) (hl : l.length = n) (hn : n ≤ 1000000000) (hk : k ≤ n) (hQ : Blk w q 46 (staCells [x])) (hbase : base ≤ w.heap.size) (hne : ∀ g, v.ownBlock = some g → q ≠ g) :
    Calls Tryz.prog 69 #[v, .int .i64 k, .slice (some ⟨q, 0, none⟩) 1 1] w fun e w' => ∃ v', e = .returned v' ∧ OwnS w' base v' (l.take k ++ ([x] ++ l.drop k)) ∧ Below base w w' := by
  by_cases hkn : k = n
  · subst hkn
    refine (InsertS_end base k q v l x w hown hl hn hQ hbase).mono ?_
    rintro e w' ⟨v', rfl, hO, hg⟩
    refine ⟨v', rfl, ?_, below_of_grown (Below.refl _ _) hg hbase (fun g hg => (hown.lt g hg).1)⟩
    rw [← hl, List.take_length, List.drop_length]; exact hO
  · rcases hown.blk with ⟨rfl, rfl⟩ | ⟨g, cap, cs, rfl, hb, hB, h2, h3, h4, h5, h6⟩
    · simp only [List.length_nil] at hl; omega
    · rw [hl] at hown ⊢
      by_cases hroom : n + 1 ≤ cap
      · refine (InsertS_room base g n cap k q l x w hown hl (by omega) (by omega) hroom hQ (hne g rfl)).mono ?_
        rintro e w' ⟨rfl, hO, hg⟩
        exact ⟨_, rfl, hO, below_of_grown (Below.refl _ _) hg hbase (fun g' hg' => by injection hg' with hg'; omega)⟩
      · refine (InsertS_grow base g n cap k q l x w hown hl hn (by omega) (by omega) hQ hbase).mono ?_
        rintro e w' ⟨G, rfl, hO, hb'⟩
        exact ⟨_, rfl, hO, hb'.mono hbase⟩
end Go.Proofs.YtpnfhienffekoaaGreatDoor
