/- GrpOwn, Has, in one text. -/
import Derived.Test.YtpnfhienffekoaaGreatDoorNums
import Derived.Test.YtpnfhienffekoaaGreatDoorSta
import Derived.Laws.BytesString
section
namespace Go.Proofs.YtpnfhienffekoaaGreatDoor
set_option linter.unusedVariables false
set_option linter.unusedSimpArgs false
open Go.RowKit
theorem Blk.grown {w w' : World} {g : Nat} {t : TypeId} {cs : List Value} {row : Option Nat} (h : Blk w g t cs) (hg : w.grownBy w' row) (hne : ∀ q, row = some q → g ≠ q) : Blk w' g t cs := (hg.block g h.lt (fun e => hne g e.symm rfl)).trans h
theorem grown_of_below {w w' : World} (hb : Below w.heap.size w w') (row : Option Nat) : w.grownBy w' row := ⟨hb.os, hb.tape, hb.output, hb.size, fun k hk _ => hb.block k hk⟩
theorem below_of_grown {B : Nat} {a w w' : World} {row : Option Nat} (hb : Below B a w) (hg : w.grownBy w' row) (hB : B ≤ w.heap.size) (hr : ∀ k, row = some k → B ≤ k) : Below B a w' :=
  ⟨hg.os.trans hb.os, hg.tape.trans hb.tape, hg.output.trans hb.output, Nat.le_trans hb.size hg.size, fun k hk => (hg.block k (Nat.lt_of_lt_of_le hk hB) (fun e => by have := hr k e.symm; omega)).trans (hb.block k hk)⟩
theorem below_trans0 {a b c : World} (h : Below a.heap.size a b) (k : Below b.heap.size b c) : Below a.heap.size a c := h.trans (k.mono h.size)
theorem own_below {w w' : World} {base : Nat} {e : TypeId} {size : Nat} {v : Value} {n : Nat} {xs : List Value} (h : w.ownsRow base e size v n xs) (hb : Below w.heap.size w w') : w'.ownsRow base e size v n xs :=
  h.kept (grown_of_below hb none) (by cases v.ownBlock with | none => exact .inl rfl | some k => exact .inr (fun e => by cases e))
theorem own_only {w w' : World} {base : Nat} {e : TypeId} {size : Nat} {v : Value} {n : Nat} {xs : List Value} {row : Option Nat} (h : w.ownsRow base e size v n xs) (hg : w.grownBy w' row) (hne : ∀ k, v.ownBlock = some k → row = some k → False) : w'.ownsRow base e size v n xs :=
  h.kept hg (by cases hv : v.ownBlock with | none => exact .inl rfl | some k => exact .inr (fun e => hne k hv e.symm))
/-- the value is a row made after base that reads as these numbers -/
def OwnI (w : World) (base : Nat) (v : Value) (l : List Int) : Prop := w.ownsRow base 2 1 v l.length (numCells l)
theorem OwnI.nil (w : World) (base : Nat) : OwnI w base (.slice none 0 0) [] := World.ownsRow_nil w base _ 1
theorem OwnI.below {w w' : World} {base : Nat} {v : Value} {l : List Int} (h : OwnI w base v l) (hb : Below w.heap.size w w') : OwnI w' base v l := own_below h hb
theorem OwnI.only {w w' : World} {base : Nat} {v : Value} {l : List Int} {row : Option Nat} (h : OwnI w base v l) (hg : w.grownBy w' row) (hne : ∀ k, v.ownBlock = some k → row = some k → False) : OwnI w' base v l := own_only h hg hne
theorem OwnI.lt {w : World} {base : Nat} {v : Value} {l : List Int} (h : OwnI w base v l) : ∀ k, v.ownBlock = some k → base ≤ k ∧ k < w.heap.size := World.ownsRow.lt h
theorem OwnI.alloc {w : World} {base : Nat} {v : Value} {l : List Int} (h : OwnI w base v l) (o : Obj) : OwnI (w.alloc o) base v l := World.ownsRow.alloc h o
theorem OwnI.form {w : World} {base : Nat} {v : Value} {l : List Int} (h : OwnI w base v l) : ∃ A c, v = .slice A l.length c ∧ Ints w A l := by
  rcases h.2 with ⟨hv, hn⟩ | ⟨g, cap, cur, hv, hr⟩
  · exact ⟨none, 0, by rw [hn]; exact hv, fun hl => by omega⟩
  · refine ⟨some ⟨g, 0, none⟩, cap, hv, Ints.of_own (base := base) (e := 2) (c := cap) (n := l.length) ?_⟩
    subst hv; exact h
theorem OwnI.blk {w : World} {base : Nat} {v : Value} {l : List Int} (h : OwnI w base v l) : (v = .slice none 0 0 ∧ l = []) ∨ ∃ g cap cs, v = .slice (some ⟨g, 0, none⟩) l.length cap ∧ base ≤ g ∧ Blk w g 2 cs ∧ l.length ≤ cs.length ∧ cap ≤ maxLen ∧ l.length ≤ cap ∧ cs.length = cap := by
  rcases h.2 with ⟨hv, hn⟩ | ⟨g, cap, cur, hv, hb, hg, h1, h2, h3, h4⟩
  · exact .inl ⟨hv, List.eq_nil_of_length_eq_zero hn⟩
  · exact .inr ⟨g, cap, cur.toList, hv, hb, by rw [Blk]; simpa using hg, by simp; omega, h2, h1, by simp; omega⟩
theorem OwnI.of_blk {w : World} {base g cap : Nat} {l : List Int} {cs : List Value} (hb : base ≤ g) (hB : Blk w g 2 cs) (h1 : l.length ≤ cap) (h2 : cap ≤ maxLen) (h3 : cs.length = cap) (h4 : cs.take l.length = numCells l) : OwnI w base (.slice (some ⟨g, 0, none⟩) l.length cap) l :=
  ⟨by rw [numCells_length, Nat.mul_one], .inr ⟨g, cap, cs.toArray, rfl, hb, hB, h1, h2, by simp [h3], by simpa using h4⟩⟩
theorem OwnI.at_ {w W : World} {base : Nat} {v : Value} {l : List Int} {o : Obj} (h : OwnI w base v l) (e : W = w.alloc o) : OwnI W base v l := by rw [e]; exact h.alloc o
theorem OwnI.empty (w : World) (base : Nat) (h : base ≤ w.heap.size) : OwnI (w.alloc (.cells #[] 2)) base (.slice (some ⟨w.heap.size, 0, none⟩) 0 0) [] :=
  OwnI.of_blk (cs := []) h (Blk.new w 2 []) (Nat.le_refl _) (by simp [maxLen]) rfl rfl
/-- one number is appended -/
theorem run_app_int (W : World) (base : Nat) (v : Value) (l : List Int) (y : Int) (b c : Nat) (ty : TypeId) (hown : OwnI W base v l) (hc : W.cell? ⟨b, 0, none⟩ = some (.int .i64 y)) (hl : l.length ≤ 1099511627776) (hb : base ≤ W.heap.size) :
    ∃ v' w', (Builtin.append_ #[55, 55] ty #[v, .slice (some ⟨b, 0, none⟩) 1 c]).run Tryz.prog W = .ok v' w' ∧ OwnI w' base v' (l ++ [y]) ∧ W.grownBy w' v.ownBlock := by
  obtain ⟨i0, hi0, hz0, hz1, hz2⟩ := info_parts info_num
  obtain ⟨v', w', hr, h1, h2, _⟩ := World.ownsRow.lt hown |> fun _ => run_append_own (P := Tryz.prog) W base 55 ty 2 i0 _ 1 8 Tryz.underlying55 hi0 hz0 hz1 hz2 rfl (by decide) v l.length (numCells l) hown ⟨b, 0, none⟩ 1 c [.int .i64 y] rfl (fun j u hj => by
      cases j with
      | zero => simp only [List.getElem?_cons_zero, Option.some.injEq] at hj; subst hj; rw [addr_add]; exact hc
      | succ j => simp at hj) (fun u hu => by simp only [List.mem_singleton] at hu; subst hu; rfl) (by simp only [maxLen]; omega) (by omega) hb
  refine ⟨v', w', hr, ?_, h2⟩
  have e : numCells (l ++ [y]) = numCells l ++ [.int .i64 y] := by simp [numCells]
  rw [OwnI, e, List.length_append]; exact h1
theorem wpList_app_int {W : World} {ops : Array Oper} {rest : List Oper} {o : Oper} {a : Act} {Q : Exit → Act → World → Prop} (hgd : o.guard = none) (s x : Operand)
    (ho : o.op = .call { callee := .builtin .append, args := #[s, x], argTypes := #[55, 55] })
    (base : Nat) (v : Value) (l : List Int) (y : Int) (b c : Nat) (hs : a.eval s = v) (hx : a.eval x = .slice (some ⟨b, 0, none⟩) 1 c) (hown : OwnI W base v l) (hc : W.cell? ⟨b, 0, none⟩ = some (.int .i64 y)) (hl : l.length ≤ 1099511627776) (hb : base ≤ W.heap.size)
    (h : ∀ v' w', OwnI w' base v' (l ++ [y]) → W.grownBy w' v.ownBlock → wpList Tryz.prog ops Q rest (a.put o.dst v') w') : wpList Tryz.prog ops Q (o :: rest) a W := by
  refine wpList_plain hgd fun K hK => ?_
  obtain ⟨v', w', hr, h1, h2⟩ := run_app_int W base v l y b c o.type hown hc hl hb
  unfold Oper.wp execOp
  simp only [ho, resolve, invoke, builtin, Sem.run_bind, Sem.run_pure, Result.andThen_ok, List.map_toArray, List.map_cons, List.map_nil, hs, hx, hr]
  exact hK _ _ (h v' w' h1 h2)
end Go.Proofs.YtpnfhienffekoaaGreatDoor
end
section
namespace Go.Proofs.YtpnfhienffekoaaGreatDoor
set_option linter.unusedVariables false
set_option linter.unusedSimpArgs false
open Go.RowKit
/-- the digits of a number before some others -/
def markGo : Nat → Nat → List UInt8 → List UInt8
  | 0, _, acc => acc
  | f + 1, k, acc => if k = 0 then acc else markGo f (k / 10) ((48 + UInt8.ofNat (k % 10)) :: acc)
/-- the text of a mark -/
def markT (k : Nat) : ByteArray := ⟨(109 :: markGo k k []).toArray⟩
theorem markGo_zero (f : Nat) (acc : List UInt8) : markGo f 0 acc = acc := by cases f <;> simp [markGo]
theorem markGo_fuel (f g k : Nat) (acc : List UInt8) (hf : k ≤ f) (hg : k ≤ g) : markGo f k acc = markGo g k acc := by
  induction f generalizing g k acc with
  | zero => obtain rfl : k = 0 := by omega
            rw [markGo_zero, markGo_zero]
  | succ f ih =>
    by_cases h : k = 0
    · subst h; rw [markGo_zero, markGo_zero]
    · cases g with
      | zero => omega
      | succ g =>
        rw [markGo, markGo, if_neg h, if_neg h]
        exact ih g (k / 10) _ (by omega) (by omega)
theorem markGo_step (k : Nat) (acc : List UInt8) (h : 0 < k) : markGo k k acc = markGo (k / 10) (k / 10) ((48 + UInt8.ofNat (k % 10)) :: acc) := by
  cases k with
  | zero => omega
  | succ k =>
    rw [markGo, if_neg (by omega)]
    exact markGo_fuel _ _ _ _ (by omega) (Nat.le_refl _)
theorem bytes_cons (a : UInt8) (acc : List UInt8) : ((⟨#[a]⟩ : ByteArray) ++ (⟨acc.toArray⟩ : ByteArray)) = ⟨(a :: acc).toArray⟩ := by
  apply ByteArray.ext; simp [ByteArray.data_append]
theorem ret_string {a b : ByteArray} (h : a = b) : Ending.returned (.string a) = Ending.returned (.string b) := by rw [h]
theorem run_byte_string (W : World) (x : Int) : (convert 22 9 (.slice (some ⟨W.heap.size, 0, none⟩) 1 1)).run Tryz.prog (W.alloc (.cells #[.int .u8 x] 5)) = .ok (.string ⟨#[UInt8.ofNat x.toNat]⟩) (W.alloc (.cells #[.int .u8 x] 5)) := by
  rw [run_convert_bytes_string _ _ _ 5 _ _ _ Tryz.underlying22 Tryz.underlying5 Tryz.underlying9, run_bytesToString _ _ _ _ [x] (by simp [loadCells, go_sem])]
  rfl
end Go.Proofs.YtpnfhienffekoaaGreatDoor
end
section
namespace Go.Proofs.YtpnfhienffekoaaGreatDoor
set_option linter.unusedVariables false
set_option linter.unusedSimpArgs false
open Go.RowKit
/-- the value is a row made after base that reads as these numbers -/
def OwnS (w : World) (base : Nat) (v : Value) (l : List Sta) : Prop := w.ownsRow base 46 5 v l.length (staCells l)
theorem OwnS.nil (w : World) (base : Nat) : OwnS w base (.slice none 0 0) [] := World.ownsRow_nil w base _ 5
theorem OwnS.below {w w' : World} {base : Nat} {v : Value} {l : List Sta} (h : OwnS w base v l) (hb : Below w.heap.size w w') : OwnS w' base v l := own_below h hb
theorem OwnS.only {w w' : World} {base : Nat} {v : Value} {l : List Sta} {row : Option Nat} (h : OwnS w base v l) (hg : w.grownBy w' row) (hne : ∀ k, v.ownBlock = some k → row = some k → False) : OwnS w' base v l := own_only h hg hne
theorem OwnS.lt {w : World} {base : Nat} {v : Value} {l : List Sta} (h : OwnS w base v l) : ∀ k, v.ownBlock = some k → base ≤ k ∧ k < w.heap.size := World.ownsRow.lt h
theorem OwnS.alloc {w : World} {base : Nat} {v : Value} {l : List Sta} (h : OwnS w base v l) (o : Obj) : OwnS (w.alloc o) base v l := World.ownsRow.alloc h o
theorem OwnS.form {w : World} {base : Nat} {v : Value} {l : List Sta} (h : OwnS w base v l) : ∃ A c, v = .slice A l.length c ∧ Stars w A l := by
  rcases h.2 with ⟨hv, hn⟩ | ⟨g, cap, cur, hv, hr⟩
  · exact ⟨none, 0, by rw [hn]; exact hv, fun hl => by omega⟩
  · refine ⟨some ⟨g, 0, none⟩, cap, hv, Stars.of_own (base := base) (e := 46) (c := cap) (n := l.length) ?_⟩
    subst hv; exact h
theorem OwnS.blk {w : World} {base : Nat} {v : Value} {l : List Sta} (h : OwnS w base v l) : (v = .slice none 0 0 ∧ l = []) ∨ ∃ g cap cs, v = .slice (some ⟨g, 0, none⟩) l.length cap ∧ base ≤ g ∧ Blk w g 46 cs ∧ l.length * 5 ≤ cs.length ∧ cap ≤ maxLen ∧ l.length ≤ cap ∧ cs.length = cap * 5 ∧ cs.take (l.length * 5) = staCells l := by
  rcases h.2 with ⟨hv, hn⟩ | ⟨g, cap, cur, hv, hb, hg, h1, h2, h3, h4⟩
  · exact .inl ⟨hv, List.eq_nil_of_length_eq_zero hn⟩
  · exact .inr ⟨g, cap, cur.toList, hv, hb, by rw [Blk]; simpa using hg, by simp; omega, h2, h1, by simp; omega, h4⟩
theorem OwnS.of_blk {w : World} {base g cap : Nat} {l : List Sta} {cs : List Value} (hb : base ≤ g) (hB : Blk w g 46 cs) (h1 : l.length ≤ cap) (h2 : cap ≤ maxLen) (h3 : cs.length = cap * 5) (h4 : cs.take (l.length * 5) = staCells l) : OwnS w base (.slice (some ⟨g, 0, none⟩) l.length cap) l :=
  ⟨staCells_length l, .inr ⟨g, cap, cs.toArray, rfl, hb, hB, h1, h2, by simp [h3], by simpa using h4⟩⟩
theorem OwnS.at_ {w W : World} {base : Nat} {v : Value} {l : List Sta} {o : Obj} (h : OwnS w base v l) (e : W = w.alloc o) : OwnS W base v l := by rw [e]; exact h.alloc o
theorem OwnS.empty (w : World) (base : Nat) (h : base ≤ w.heap.size) : OwnS (w.alloc (.cells #[] 46)) base (.slice (some ⟨w.heap.size, 0, none⟩) 0 0) [] :=
  OwnS.of_blk (cs := []) h (Blk.new w 46 []) (Nat.le_refl _) (by simp [maxLen]) rfl rfl
/-- stars are appended -/
theorem run_app_stars (W : World) (base : Nat) (v : Value) (l ys : List Sta) (A : Option Addr) (m c : Nat) (ty : TypeId) (hown : OwnS W base v l) (hm : ys.length = m) (hc : Stars W A ys) (h0 : A = none → c = 0 ∧ m = 0) (hl : l.length + m ≤ 1099511627776) (hb : base ≤ W.heap.size) :
    ∃ v' w', (Builtin.append_ #[42, 42] ty #[v, .slice A m c]).run Tryz.prog W = .ok v' w' ∧ OwnS w' base v' (l ++ ys) ∧ W.grownBy w' v.ownBlock := by
  obtain ⟨i0, hi0, hz0, hz1, hz2⟩ := info_parts info_star
  subst hm
  cases A with
  | none =>
    obtain ⟨rfl, h2⟩ := h0 rfl
    have e : ys = [] := List.eq_nil_of_length_eq_zero h2
    subst e
    exact ⟨v, W, run_append_owned_none (P := Tryz.prog) W base _ ty _ i0 5 Tryz.underlying42 hi0 v l.length (staCells l) hown, by simpa using hown, grown_of_below (Below.refl _ _) _⟩
  | some a =>
    obtain ⟨v', w', hr, h1, h2, _⟩ := run_append_own (P := Tryz.prog) W base 42 ty 46 i0 _ 5 48 Tryz.underlying42 hi0 hz0 hz1 hz2 rfl (by decide) v l.length (staCells l) hown a ys.length c (staCells ys) (staCells_length ys) (fun j u hj => by
      have hpos : 0 < ys.length := by
        cases ys with
        | nil => simp [staCells] at hj
        | cons y ys => simp
      obtain ⟨b, o, e, hst⟩ := hc hpos
      obtain rfl : a = ⟨b, o, none⟩ := Option.some.inj e
      rw [addr_add]
      have hj2 : j < ys.length * 5 := by
        have := (List.getElem?_eq_some_iff.1 hj).1
        rw [staCells_length] at this; exact this
      obtain ⟨x, hx⟩ := at_lt (l := ys) (k := j / 5) (by omega)
      have hs := hst _ x hx
      have he := staCells_at hx (j % 5) (by omega)
      rw [show j / 5 * 5 + j % 5 = j by omega, hj] at he
      obtain ⟨d0, d1, d2, d3, d4⟩ := hs
      have hcase : j % 5 = 0 ∨ j % 5 = 1 ∨ j % 5 = 2 ∨ j % 5 = 3 ∨ j % 5 = 4 := by omega
      rcases hcase with h | h | h | h | h
      · rw [h] at he; simp only [Sta.cells, List.getElem?_cons_zero, Option.some.injEq] at he; subst he; rw [show o + j = o + j / 5 * 5 by omega]; exact d0
      · rw [h] at he; simp only [Sta.cells, List.getElem?_cons_succ, List.getElem?_cons_zero, Option.some.injEq] at he; subst he; rw [show o + j = o + j / 5 * 5 + 1 by omega]; exact d1
      · rw [h] at he; simp only [Sta.cells, List.getElem?_cons_succ, List.getElem?_cons_zero, Option.some.injEq] at he; subst he; rw [show o + j = o + j / 5 * 5 + 2 by omega]; exact d2
      · rw [h] at he; simp only [Sta.cells, List.getElem?_cons_succ, List.getElem?_cons_zero, Option.some.injEq] at he; subst he; rw [show o + j = o + j / 5 * 5 + 3 by omega]; exact d3
      · rw [h] at he; simp only [Sta.cells, List.getElem?_cons_succ, List.getElem?_cons_zero, Option.some.injEq] at he; subst he; rw [show o + j = o + j / 5 * 5 + 4 by omega]; exact d4)
      (fun u hu => by
        simp only [staCells, List.mem_flatMap, Sta.cells, List.mem_cons, List.not_mem_nil, or_false] at hu
        obtain ⟨x, _, h | h | h | h | h⟩ := hu <;> subst h <;> rfl)
      (by simp only [maxLen]; omega) (by omega) hb
    refine ⟨v', w', hr, ?_, h2⟩
    have e : staCells (l ++ ys) = staCells l ++ staCells ys := by simp [staCells]
    rw [OwnS, e, List.length_append]; exact h1
theorem wpList_app_stars {W : World} {ops : Array Oper} {rest : List Oper} {o : Oper} {a : Act} {Q : Exit → Act → World → Prop} (hgd : o.guard = none) (s x : Operand)
    (ho : o.op = .call { callee := .builtin .append, args := #[s, x], argTypes := #[42, 42] })
    (base : Nat) (v : Value) (l ys : List Sta) (A : Option Addr) (m c : Nat) (hs : a.eval s = v) (hx : a.eval x = .slice A m c) (hown : OwnS W base v l) (hm : ys.length = m) (hc : Stars W A ys) (h0 : A = none → c = 0 ∧ m = 0) (hl : l.length + m ≤ 1099511627776) (hb : base ≤ W.heap.size)
    (h : ∀ v' w', OwnS w' base v' (l ++ ys) → W.grownBy w' v.ownBlock → wpList Tryz.prog ops Q rest (a.put o.dst v') w') : wpList Tryz.prog ops Q (o :: rest) a W := by
  refine wpList_plain hgd fun K hK => ?_
  obtain ⟨v', w', hr, h1, h2⟩ := run_app_stars W base v l ys A m c o.type hown hm hc h0 hl hb
  unfold Oper.wp execOp
  simp only [ho, resolve, invoke, builtin, Sem.run_bind, Sem.run_pure, Result.andThen_ok, List.map_toArray, List.map_cons, List.map_nil, hs, hx, hr]
  exact hK _ _ (h v' w' h1 h2)
end Go.Proofs.YtpnfhienffekoaaGreatDoor
end
section
namespace Go.Proofs.YtpnfhienffekoaaGreatDoor
set_option linter.unusedVariables false
set_option linter.unusedSimpArgs false
open Go.RowKit
theorem Ints.take {w : World} {A : Option Addr} {l : List Int} (h : Ints w A l) (k : Nat) : Ints w A (l.take k) := fun hl => by
  obtain ⟨b, o, e, hc⟩ := h (by rw [List.length_take] at hl; omega)
  refine ⟨b, o, e, fun i x hx => hc i x ?_⟩
  rw [List.getElem?_take] at hx
  split at hx
  · exact hx
  · cases hx
theorem Ints.drop {w : World} {b o c : Nat} {l : List Int} (h : Ints w (some ⟨b, o, none⟩) l) (k : Nat) (hc : l.length ≤ c) : Ints w (if c = k then some ⟨b, o, none⟩ else some ⟨b, o + k, none⟩) (l.drop k) := fun hl => by
  rw [List.length_drop] at hl
  obtain ⟨b', o', e, hs⟩ := h (by omega)
  obtain ⟨rfl, rfl⟩ : b = b' ∧ o = o' := by injection e with e; injection e with e1 e2; exact ⟨e1, e2⟩
  refine ⟨b, o + k, by rw [if_neg (by omega)], fun i x hx => ?_⟩
  rw [List.getElem?_drop] at hx
  have := hs _ _ hx
  rw [show o + k + i = o + (k + i) by omega]; exact this
theorem run_app_ints (W : World) (base : Nat) (v : Value) (l ys : List Int) (A : Option Addr) (m c : Nat) (ty : TypeId) (hown : OwnI W base v l) (hm : ys.length = m) (hc : Ints W A ys) (h0 : A = none → c = 0 ∧ m = 0) (hl : l.length + m ≤ 1099511627776) (hb : base ≤ W.heap.size) :
    ∃ v' w', (Builtin.append_ #[55, 55] ty #[v, .slice A m c]).run Tryz.prog W = .ok v' w' ∧ OwnI w' base v' (l ++ ys) ∧ W.grownBy w' v.ownBlock := by
  obtain ⟨i0, hi0, hz0, hz1, hz2⟩ := info_parts info_num
  subst hm
  cases A with
  | none =>
    obtain ⟨rfl, h2⟩ := h0 rfl
    have e : ys = [] := List.eq_nil_of_length_eq_zero h2
    subst e
    exact ⟨v, W, run_append_owned_none (P := Tryz.prog) W base _ ty _ i0 1 Tryz.underlying55 hi0 v l.length (numCells l) hown, by simpa using hown, grown_of_below (Below.refl _ _) _⟩
  | some a =>
    have hl1 : l.length + ys.length ≤ maxLen := Nat.le_trans hl (by decide)
    have hl2 := Nat.mul_le_mul_right 8 hl
    obtain ⟨v', w', hr, h1, h2, _⟩ := run_append_own (P := Tryz.prog) W base 55 ty 2 i0 _ 1 8 Tryz.underlying55 hi0 hz0 hz1 hz2 rfl (by decide) v l.length (numCells l) hown a ys.length c (numCells ys) (by rw [numCells_length, Nat.mul_one]) (fun j u hj => by
      have hpos : 0 < ys.length := by
        have := (List.getElem?_eq_some_iff.1 hj).1
        rw [numCells_length] at this; omega
      obtain ⟨b, o, e, hst⟩ := hc hpos
      obtain rfl : a = ⟨b, o, none⟩ := Option.some.inj e
      rw [addr_add]
      have hj2 : j < ys.length := by
        have := (List.getElem?_eq_some_iff.1 hj).1
        rw [numCells_length] at this; exact this
      obtain ⟨x, hx⟩ := at_lt (l := ys) (k := j) hj2
      have hu : Value.int .i64 x = u := Option.some.inj ((numCells_at hx).symm.trans hj)
      rw [← hu]
      exact hst j x hx)
      (fun u hu => by
        simp only [numCells, List.mem_map] at hu
        obtain ⟨x, _, h⟩ := hu; subst h; rfl)
      hl1 (Nat.le_trans hl2 (by decide)) hb
    refine ⟨v', w', hr, ?_, h2⟩
    have e : numCells (l ++ ys) = numCells l ++ numCells ys := by simp [numCells]
    rw [OwnI, e, List.length_append]; exact h1
theorem wpList_app_ints {W : World} {ops : Array Oper} {rest : List Oper} {o : Oper} {a : Act} {Q : Exit → Act → World → Prop} (hgd : o.guard = none) (s x : Operand)
    (ho : o.op = .call { callee := .builtin .append, args := #[s, x], argTypes := #[55, 55] })
    (base : Nat) (v : Value) (l ys : List Int) (A : Option Addr) (m c : Nat) (hs : a.eval s = v) (hx : a.eval x = .slice A m c) (hown : OwnI W base v l) (hm : ys.length = m) (hc : Ints W A ys) (h0 : A = none → c = 0 ∧ m = 0) (hl : l.length + m ≤ 1099511627776) (hb : base ≤ W.heap.size)
    (h : ∀ v' w', OwnI w' base v' (l ++ ys) → W.grownBy w' v.ownBlock → wpList Tryz.prog ops Q rest (a.put o.dst v') w') : wpList Tryz.prog ops Q (o :: rest) a W := by
  refine wpList_plain hgd fun K hK => ?_
  obtain ⟨v', w', hr, h1, h2⟩ := run_app_ints W base v l ys A m c o.type hown hm hc h0 hl hb
  unfold Oper.wp execOp
  simp only [ho, resolve, invoke, builtin, Sem.run_bind, Sem.run_pure, Result.andThen_ok, List.map_toArray, List.map_cons, List.map_nil, hs, hx, hr]
  exact hK _ _ (h v' w' h1 h2)
theorem OwnI.base_le {w : World} {b1 b2 : Nat} {v : Value} {l : List Int} (h : OwnI w b1 v l) (hb : b2 ≤ b1) : OwnI w b2 v l := by
  refine ⟨h.1, ?_⟩
  rcases h.2 with h2 | ⟨g, cap, cur, h1, h2, hr⟩
  · exact .inl h2
  · exact .inr ⟨g, cap, cur, h1, Nat.le_trans hb h2, hr⟩
theorem OwnI.form2 {w : World} {base : Nat} {v : Value} {l : List Int} (h : OwnI w base v l) : ∃ A c, v = .slice A l.length c ∧ Ints w A l ∧ l.length ≤ c ∧ c ≤ 9223372036854775807 ∧ (A = none → c = 0 ∧ l.length = 0) ∧ (A = none ∨ ∃ g, A = some ⟨g, 0, none⟩) := by
  rcases h.blk with ⟨rfl, rfl⟩ | ⟨g, cap, cs, rfl, hb, hB, h2, h3, h4, h5⟩
  · exact ⟨none, 0, rfl, fun h => absurd h (by simp), by simp, by omega, fun _ => ⟨rfl, rfl⟩, .inl rfl⟩
  · obtain ⟨A, c, e, hI⟩ := h.form
    injection e with e1 e2 e3
    subst e1 e3
    exact ⟨_, _, rfl, hI, h4, by unfold maxLen at h3; omega, fun h => (by cases h), .inr ⟨g, rfl⟩⟩
end Go.Proofs.YtpnfhienffekoaaGreatDoor
end
namespace Go.Proofs.YtpnfhienffekoaaGreatDoor
set_option linter.unusedVariables false
set_option linter.unusedSimpArgs false
open Go.RowKit
/-- is the number among them -/
def hasI (ys : List Int) (x : Int) : Bool := ys.contains x
theorem hasI_iff {ys : List Int} {x : Int} : hasI ys x = true ↔ x ∈ ys := by simp [hasI]
theorem take_no {ys : List Int} {k : Nat} {x y : Int} (h : hasI (ys.take k) x = false) (hy : ys[k]? = some y) (hne : y ≠ x) : hasI (ys.take (k + 1)) x = false := by
  rw [List.take_add_one, hy]
  have : ¬ x = y := fun e => hne e.symm
  simp only [hasI, List.contains_eq_mem, List.mem_append, decide_eq_false_iff_not] at h ⊢
  simp [h, this]
theorem hasI_at {ys : List Int} {k : Nat} {x : Int} (hy : ys[k]? = some x) : hasI ys x = true := by
  obtain ⟨hk, e⟩ := List.getElem?_eq_some_iff.1 hy
  have : x ∈ ys := e ▸ List.getElem_mem hk
  simpa [hasI] using this
set_option maxHeartbeats 1000000 in
theorem indexI_same (A : Option Addr) (n c : Nat) (ys : List Int) (x : Int) (w : World) (hl : ys.length = n) (hn : n ≤ 9223372036854775807) (hS : Ints w A ys) :
    Calls Tryz.prog 124 #[.slice A n c, .int .i64 x] w fun e w' => ∃ p : Int, e = .returned (.int .i64 p) ∧ decide (0 ≤ p) = hasI ys x ∧ w = w' := by
  have HL := Lib.hid hl; clear hl
  go_enter Tryz.func124, Tryz.ntmps124
  go_wp2
  go_loop [5, 8] (fun u i => ∃ k : Nat, k ≤ n ∧ i = .int .i64 k ∧ hasI (ys.take k) x = false) (fun _ i => n - (intOf i).toNat)
  case atStart => exact ⟨0, by omega, rfl, by simp [hasI]⟩
  case round =>
    obtain ⟨k, hk, rfl, hno⟩ := hrel
    have HNO := Lib.hid hno; clear hno
    by_cases hlt : k < n
    · obtain ⟨y, hy⟩ := at_lt (l := ys) (k := k) (by have := HL.out; omega)
      obtain ⟨b, o, rfl, hc⟩ := hS (by have := HL.out; omega)
      have c0 := hc k y hy
      have HY := Lib.hid hy; clear hy hc hS
      by_cases he : x = y
      · subst he
        go_wp2
        go_ret
        exact ⟨(k : Int), rfl, by rw [hasI_at HY.out]; simp, rfl⟩
      · go_wp2
        go_round
        case rel => exact ⟨k + 1, by omega, by go_num, take_no HNO.out HY.out (fun e => he e.symm)⟩
        case measure => simp [intOf]; omega
    · obtain rfl : k = n := by omega
      go_wp2
      go_ret
      refine ⟨-1, rfl, ?_, rfl⟩
      have := HNO.out
      rw [List.take_of_length_le (by have := HL.out; omega)] at this
      rw [this]; rfl
theorem containsI_same (A : Option Addr) (n c : Nat) (ys : List Int) (x : Int) (w : World) (hl : ys.length = n) (hn : n ≤ 9223372036854775807) (hS : Ints w A ys) :
    Calls Tryz.prog 87 #[.slice A n c, .int .i64 x] w fun e w' => e = .returned (.bool (hasI ys x)) ∧ w = w' := by
  go_enter Tryz.func87, Tryz.ntmps87
  go_wp2_with (refine (indexI_same A n c ys x _ hl hn hS).mono ?_; rintro e w1 ⟨p, rfl, hp, rfl⟩)
  go_ret
  exact ⟨ret_bool (by rw [← hp]), rfl⟩
end Go.Proofs.YtpnfhienffekoaaGreatDoor
