/- Texts that belong together, as one: OwnRows, Mark, OwnStas, AppI. -/
import Derived.Test.YtbpjnopnhmoigaaDoorNums
import Derived.Test.YtbpjnopnhmoigaaDoorSta
import Derived.Laws.BytesString
section
namespace Go.Proofs.YtbpjnopnhmoigaaDoor
set_option linter.unusedVariables false
set_option linter.unusedSimpArgs false
open Go.RowKit
theorem grown_of_below {w w' : World} (hb : Below w.heap.size w w') (row : Option Nat) : w.grownBy w' row := ⟨hb.os, hb.tape, hb.output, hb.size, fun k hk _ => hb.block k hk⟩
theorem below_of_grown {B : Nat} {a w w' : World} {row : Option Nat} (hb : Below B a w) (hg : w.grownBy w' row) (hB : B ≤ w.heap.size) (hr : ∀ k, row = some k → B ≤ k) : Below B a w' :=
  ⟨hg.os.trans hb.os, hg.tape.trans hb.tape, hg.output.trans hb.output, Nat.le_trans hb.size hg.size, fun k hk => (hg.block k (Nat.lt_of_lt_of_le hk hB) (fun e => by have := hr k e.symm; omega)).trans (hb.block k hk)⟩
theorem below_trans0 {a b c : World} (h : Below a.heap.size a b) (k : Below b.heap.size b c) : Below a.heap.size a c := h.trans (k.mono h.size)
theorem own_below {w w' : World} {base : Nat} {e : TypeId} {size : Nat} {v : Value} {n : Nat} {xs : List Value} (h : w.ownsRow base e size v n xs) (hb : Below w.heap.size w w') : w'.ownsRow base e size v n xs :=
  h.kept (grown_of_below hb none) (by cases v.ownBlock with | none => exact .inl rfl | some k => exact .inr (fun e => by cases e))
theorem own_only {w w' : World} {base : Nat} {e : TypeId} {size : Nat} {v : Value} {n : Nat} {xs : List Value} {row : Option Nat} (h : w.ownsRow base e size v n xs) (hg : w.grownBy w' row) (hne : ∀ k, v.ownBlock = some k → row = some k → False) : w'.ownsRow base e size v n xs :=
  h.kept hg (by cases hv : v.ownBlock with | none => exact .inl rfl | some k => exact .inr (fun e => hne k hv e.symm))
/-- the value is a row made after base that reads as these numbers -/
def OwnI (w : World) (base : Nat) (v : Value) (l : List Int) : Prop := w.ownsRow base 2 1 v l.length (numCells l)
theorem OwnI.nil (w : World) (base : Nat) : OwnI w base (.slice none 0 0) [] := World.ownsRow_nil w base _ 1
theorem OwnI.below {w w' : World} {base : Nat} {v : Value} {l : List Int} (h : OwnI w base v l) (hb : Below w.heap.size w w') : OwnI w' base v l := own_below h hb
theorem OwnI.only {w w' : World} {base : Nat} {v : Value} {l : List Int} {row : Option Nat} (h : OwnI w base v l) (hg : w.grownBy w' row) (hne : ∀ k, v.ownBlock = some k → row = some k → False) : OwnI w' base v l := own_only h hg hne
theorem OwnI.lt {w : World} {base : Nat} {v : Value} {l : List Int} (h : OwnI w base v l) : ∀ k, v.ownBlock = some k → base ≤ k ∧ k < w.heap.size := World.ownsRow.lt h
theorem OwnI.alloc {w : World} {base : Nat} {v : Value} {l : List Int} (h : OwnI w base v l) (o : Obj) : OwnI (w.alloc o) base v l := World.ownsRow.alloc h o
theorem OwnI.form {w : World} {base : Nat} {v : Value} {l : List Int} (h : OwnI w base v l) : ∃ A c, v = .slice A l.length c ∧ Ints w A l := by
  rcases h.2 with ⟨hv, hn⟩ | ⟨g, cap, cur, hv, hr⟩
  · exact ⟨none, 0, by rw [hn]; exact hv, fun hl => by omega⟩
  · refine ⟨some ⟨g, 0, none⟩, cap, hv, Ints.of_own (base := base) (e := 2) (c := cap) (n := l.length) ?_⟩
    subst hv; exact h
theorem OwnI.blk {w : World} {base : Nat} {v : Value} {l : List Int} (h : OwnI w base v l) : (v = .slice none 0 0 ∧ l = []) ∨ ∃ g cap cs, v = .slice (some ⟨g, 0, none⟩) l.length cap ∧ base ≤ g ∧ Blk w g 2 cs ∧ l.length ≤ cs.length ∧ cap ≤ maxLen ∧ l.length ≤ cap ∧ cs.length = cap := by
  rcases h.2 with ⟨hv, hn⟩ | ⟨g, cap, cur, hv, hb, hg, h1, h2, h3, h4⟩
  · exact .inl ⟨hv, List.eq_nil_of_length_eq_zero hn⟩
  · exact .inr ⟨g, cap, cur.toList, hv, hb, by rw [Blk]; simpa using hg, by simp; omega, h2, h1, by simp; omega⟩
theorem OwnI.of_blk {w : World} {base g cap : Nat} {l : List Int} {cs : List Value} (hb : base ≤ g) (hB : Blk w g 2 cs) (h1 : l.length ≤ cap) (h2 : cap ≤ maxLen) (h3 : cs.length = cap) (h4 : cs.take l.length = numCells l) : OwnI w base (.slice (some ⟨g, 0, none⟩) l.length cap) l :=
  ⟨by rw [numCells_length, Nat.mul_one], .inr ⟨g, cap, cs.toArray, rfl, hb, hB, h1, h2, by simp [h3], by simpa using h4⟩⟩
theorem OwnI.at_ {w W : World} {base : Nat} {v : Value} {l : List Int} {o : Obj} (h : OwnI w base v l) (e : W = w.alloc o) : OwnI W base v l := by rw [e]; exact h.alloc o
theorem OwnI.empty (w : World) (base : Nat) (h : base ≤ w.heap.size) : OwnI (w.alloc (.cells #[] 2)) base (.slice (some ⟨w.heap.size, 0, none⟩) 0 0) [] :=
  OwnI.of_blk (cs := []) h (Blk.new w 2 []) (Nat.le_refl _) (by simp [maxLen]) rfl rfl
/-- one number is appended -/
theorem run_app_int (W : World) (base : Nat) (v : Value) (l : List Int) (y : Int) (b c : Nat) (ty : TypeId) (hown : OwnI W base v l) (hc : W.cell? ⟨b, 0, none⟩ = some (.int .i64 y)) (hl : l.length ≤ 1099511627776) (hb : base ≤ W.heap.size) :
    ∃ v' w', (Builtin.append_ #[24, 24] ty #[v, .slice (some ⟨b, 0, none⟩) 1 c]).run Tryd.prog W = .ok v' w' ∧ OwnI w' base v' (l ++ [y]) ∧ W.grownBy w' v.ownBlock := by
  obtain ⟨i0, hi0, hz0, hz1, hz2⟩ := info_parts info_num
  obtain ⟨v', w', hr, h1, h2, _⟩ := World.ownsRow.lt hown |> fun _ => run_append_own (P := Tryd.prog) W base 24 ty 2 i0 _ 1 8 Tryd.underlying24 hi0 hz0 hz1 hz2 rfl (by decide) v l.length (numCells l) hown ⟨b, 0, none⟩ 1 c [.int .i64 y] rfl (fun j u hj => by
      cases j with
      | zero => simp only [List.getElem?_cons_zero, Option.some.injEq] at hj; subst hj; rw [addr_add]; exact hc
      | succ j => simp at hj) (fun u hu => by simp only [List.mem_singleton] at hu; subst hu; rfl) (by simp only [maxLen]; omega) (by omega) hb
  refine ⟨v', w', hr, ?_, h2⟩
  have e : numCells (l ++ [y]) = numCells l ++ [.int .i64 y] := by simp [numCells]
  rw [OwnI, e, List.length_append]; exact h1
theorem wpList_app_int {W : World} {ops : Array Oper} {rest : List Oper} {o : Oper} {a : Act} {Q : Exit → Act → World → Prop} (hgd : o.guard = none) (s x : Operand)
    (ho : o.op = .call { callee := .builtin .append, args := #[s, x], argTypes := #[24, 24] })
    (base : Nat) (v : Value) (l : List Int) (y : Int) (b c : Nat) (hs : a.eval s = v) (hx : a.eval x = .slice (some ⟨b, 0, none⟩) 1 c) (hown : OwnI W base v l) (hc : W.cell? ⟨b, 0, none⟩ = some (.int .i64 y)) (hl : l.length ≤ 1099511627776) (hb : base ≤ W.heap.size)
    (h : ∀ v' w', OwnI w' base v' (l ++ [y]) → W.grownBy w' v.ownBlock → wpList Tryd.prog ops Q rest (a.put o.dst v') w') : wpList Tryd.prog ops Q (o :: rest) a W := by
  refine wpList_plain hgd fun K hK => ?_
  obtain ⟨v', w', hr, h1, h2⟩ := run_app_int W base v l y b c o.type hown hc hl hb
  unfold Oper.wp execOp
  simp only [ho, resolve, invoke, builtin, Sem.run_bind, Sem.run_pure, Result.andThen_ok, List.map_toArray, List.map_cons, List.map_nil, hs, hx, hr]
  exact hK _ _ (h v' w' h1 h2)
theorem eqOwnI_same (b1 b2 : Nat) (v1 v2 : Value) (l : List Int) (w : World) (hl : l.length ≤ 9223372036854775807) (h1 : OwnI w b1 v1 l) (h2 : OwnI w b2 v2 l) :
    Calls Tryd.prog 15 #[v1, v2] w fun e w' => e = .returned (.bool true) ∧ Below w.heap.size w w' := by
  obtain ⟨A1, c1, rfl, i1⟩ := h1.form
  obtain ⟨A2, c2, rfl, i2⟩ := h2.form
  exact eqInt64S_same A1 A2 l.length c1 c2 l w rfl hl i1 i2
set_option maxHeartbeats 1000000 in
theorem markInt64S_nil (j : Int) (w : World) (h0 : 0 ≤ j) (h1 : j ≤ 1000000000) :
    Calls Tryd.prog 18 #[.slice none 0 0, .int .i64 j] w fun e w' => e = .returned (.int .i64 j) ∧ w = w' := by
  go_enter Tryd.func18, Tryd.ntmps18
  go_wp2_with (fail)
  go_loop [1, 5] (fun v i => i = .int .i64 0 ∧ v = .int .i64 j) (fun _ i => 0)
  case atStart => exact ⟨rfl, rfl⟩
  case round =>
    obtain ⟨rfl, rfl⟩ := hrel
    go_wp2
    go_ret
    exact ⟨rfl, rfl⟩
theorem markOwnI_any (base : Nat) (v : Value) (l : List Int) (j : Int) (w : World) (hl : l.length ≤ 1048576) (hown : OwnI w base v l) (h0 : 0 ≤ j) (h1 : j ≤ 1000000000) :
    Calls Tryd.prog 18 #[v, .int .i64 j] w fun e w' => e = .returned (.int .i64 (j + l.length)) ∧ OwnI w' base v (upFrom j l.length) ∧ w.grownBy w' v.ownBlock := by
  rcases hown.blk with ⟨rfl, rfl⟩ | ⟨g, cap, cs, rfl, hb, hB, h2, h3, h4, h5⟩
  · refine (markInt64S_nil j w h0 h1).mono ?_
    rintro e w' ⟨rfl, rfl⟩
    exact ⟨by simp, OwnI.nil _ _, grown_of_below (Below.refl _ _) _⟩
  · refine (markInt64S_any g l.length cap cs j w h2 hl hB h0 h1).mono ?_
    rintro e w' ⟨ds, rfl, hD, hdl, hdt, hg⟩
    refine ⟨rfl, ?_, hg⟩
    have := OwnI.of_blk (l := upFrom j l.length) hb hD (by rw [upFrom_length]; exact h4) h3 (by omega) (by rw [upFrom_length]; exact hdt)
    rw [upFrom_length] at this; exact this
theorem heldOwnI_same (base : Nat) (v : Value) (n : Nat) (j : Int) (w : World) (hl : n ≤ 1048576) (hown : OwnI w base v (upFrom j n)) (h0 : 0 ≤ j) (h1 : j ≤ 1000000000) :
    Calls Tryd.prog 19 #[v, .int .i64 j] w fun e w' => e = .returned (.int .i64 (j + n)) ∧ w = w' := by
  obtain ⟨A1, c1, rfl, i1⟩ := hown.form
  rw [upFrom_length]
  exact heldInt64S_same A1 n c1 j w hl i1 h0 h1
end Go.Proofs.YtbpjnopnhmoigaaDoor
end
section
namespace Go.Proofs.YtbpjnopnhmoigaaDoor
set_option linter.unusedVariables false
set_option linter.unusedSimpArgs false
open Go.RowKit
/-- the digits of a number before some others -/
def markGo : Nat → Nat → List UInt8 → List UInt8
  | 0, _, acc => acc
  | f + 1, k, acc => if k = 0 then acc else markGo f (k / 10) ((48 + UInt8.ofNat (k % 10)) :: acc)
/-- the text of a mark -/
def markT (k : Nat) : ByteArray := ⟨(109 :: markGo k k []).toArray⟩
theorem markGo_zero (f : Nat) (acc : List UInt8) : markGo f 0 acc = acc := by cases f <;> simp [markGo]
theorem markGo_fuel (f g k : Nat) (acc : List UInt8) (hf : k ≤ f) (hg : k ≤ g) : markGo f k acc = markGo g k acc := by
  induction f generalizing g k acc with
  | zero => obtain rfl : k = 0 := by omega
            rw [markGo_zero, markGo_zero]
  | succ f ih =>
    by_cases h : k = 0
    · subst h; rw [markGo_zero, markGo_zero]
    · cases g with
      | zero => omega
      | succ g =>
        rw [markGo, markGo, if_neg h, if_neg h]
        exact ih g (k / 10) _ (by omega) (by omega)
theorem markGo_step (k : Nat) (acc : List UInt8) (h : 0 < k) : markGo k k acc = markGo (k / 10) (k / 10) ((48 + UInt8.ofNat (k % 10)) :: acc) := by
  cases k with
  | zero => omega
  | succ k =>
    rw [markGo, if_neg (by omega)]
    exact markGo_fuel _ _ _ _ (by omega) (Nat.le_refl _)
theorem bytes_cons (a : UInt8) (acc : List UInt8) : ((⟨#[a]⟩ : ByteArray) ++ (⟨acc.toArray⟩ : ByteArray)) = ⟨(a :: acc).toArray⟩ := by
  apply ByteArray.ext; simp [ByteArray.data_append]
theorem ret_string {a b : ByteArray} (h : a = b) : Ending.returned (.string a) = Ending.returned (.string b) := by rw [h]
theorem run_byte_string (W : World) (x : Int) : (convert 57 9 (.slice (some ⟨W.heap.size, 0, none⟩) 1 1)).run Tryd.prog (W.alloc (.cells #[.int .u8 x] 5)) = .ok (.string ⟨#[UInt8.ofNat x.toNat]⟩) (W.alloc (.cells #[.int .u8 x] 5)) := by
  rw [run_convert_bytes_string _ _ _ 5 _ _ _ Tryd.underlying57 Tryd.underlying5 Tryd.underlying9, run_bytesToString _ _ _ _ [x] (by simp [loadCells, go_sem])]
  rfl
set_option maxRecDepth 100000 in
set_option maxHeartbeats 1000000 in
theorem markText_any (k : Nat) (w : World) (h0 : 0 < k) (h1 : k ≤ 1000000000) :
    Calls Tryd.prog 62 #[.int .i64 k] w fun e w' => e = .returned (.string (markT k)) ∧ Below w.heap.size w w' := by
  have hk0 : (0 : Int) < k := by omega
  go_enter Tryd.func62, Tryd.ntmps62
  go_wp2_with (fail)
  go_loopw [0, 3] (fun a s wr => ∃ (m : Nat) (acc : List UInt8), m ≤ k ∧ a = .int .i64 m ∧ s = .string ⟨acc.toArray⟩ ∧ markGo k k [] = markGo m m acc ∧ acc.length + m ≤ k ∧ Below w.heap.size w wr) (fun a _ _ => (intOf a).toNat)
  case atStart => exact ⟨k, [], by omega, rfl, rfl, rfl, by simp, Below.refl _ _⟩
  case round =>
    obtain ⟨m, acc, hm, rfl, rfl, hE, hal, hb⟩ := hrel
    have HE := Lib.hid hE; clear hE
    by_cases hlt : 0 < m
    · have HS := Lib.hid (markGo_step m acc hlt)
      have hcv := run_byte_string wr
      go_wp2_with (fail)
      go_roundw
      case rel => exact ⟨m / 10, (48 + UInt8.ofNat (m % 10)) :: acc, by omega, by go_num, by rw [bytes_cons], by rw [HE.out, HS.out], by simp only [List.length_cons]; omega, below_alloc hb _⟩
      case measure => simp [intOf]; omega
    · obtain rfl : m = 0 := by omega
      go_wp2
      go_ret
      exact ⟨ret_string (by rw [bytes_cons, markT, HE.out, markGo_zero]), hb⟩
theorem markText_int (k : Nat) (x : Int) (w : World) (hx : x = k) (h0 : 0 < k) (h1 : k ≤ 1000000000) :
    Calls Tryd.prog 62 #[.int .i64 x] w fun e w' => e = .returned (.string (markT k)) ∧ Below w.heap.size w w' := by
  subst hx; exact markText_any k w h0 h1
/-- the stars that markStarS leaves -/
def markSta (j : Nat) : Sta := ⟨markT j, (j : Int) + 1, (j : Int) + 2, (j : Int) + 3, (j : Int) + 4⟩
def markL (j : Nat) : Nat → List Sta
  | 0 => []
  | n + 1 => markL j n ++ [markSta (j + 5 * n)]
theorem markL_length (j n : Nat) : (markL j n).length = n := by
  induction n with
  | zero => rfl
  | succ n ih => rw [markL, List.length_append, ih]; rfl
theorem markL_at (j n k : Nat) (h : k < n) : (markL j n)[k]? = some (markSta (j + 5 * k)) := by
  induction n with
  | zero => omega
  | succ n ih =>
    rw [markL]
    by_cases hk : k < n
    · rw [List.getElem?_append_left (by rw [markL_length]; exact hk)]; exact ih hk
    · rw [List.getElem?_append_right (by rw [markL_length]; omega), markL_length, show k - n = 0 by omega, show k = n by omega]; rfl
/-- a row whose first cells are stars: one star put into its place -/
theorem sta_row_set {ds : List Value} {k : Nat} {ys : List Sta} (h : ds.take (k * 5) = staCells ys) (hy : ys.length = k) (hk : k * 5 + 5 ≤ ds.length) (x : Sta) :
    ((((((ds.set (k * 5) (.string x.id)).set (k * 5 + 1) (.int .i64 x.ri)).set (k * 5 + 2) (.int .i64 x.de)).set (k * 5 + 3) (.int .i64 x.ma)).set (k * 5 + 4) (.int .i64 x.co)).take ((k + 1) * 5)) = staCells (ys ++ [x]) := by
  have e : staCells (ys ++ [x]) = staCells ys ++ x.cells := by simp [staCells]
  rw [e]
  apply List.ext_getElem?
  intro i
  have hl : (staCells ys).length = k * 5 := by rw [staCells_length, hy]
  have hc : x.cells.length = 5 := rfl
  rw [List.getElem?_take]
  by_cases hi : i < (k + 1) * 5
  · rw [if_pos hi]
    by_cases hi2 : i < k * 5
    · rw [List.getElem?_append_left (by omega), List.getElem?_set_ne (by omega), List.getElem?_set_ne (by omega), List.getElem?_set_ne (by omega), List.getElem?_set_ne (by omega), List.getElem?_set_ne (by omega), ← h, List.getElem?_take, if_pos hi2]
    · rw [List.getElem?_append_right (by omega), hl]
      obtain ⟨r, rfl⟩ : ∃ r, i = k * 5 + r := ⟨i - k * 5, by omega⟩
      rw [show k * 5 + r - k * 5 = r by omega]
      have hr : r < 5 := by omega
      rcases r with _ | _ | _ | _ | _ | r
      · simp only [Nat.zero_add, Nat.add_zero]; rw [List.getElem?_set_ne (by omega), List.getElem?_set_ne (by omega), List.getElem?_set_ne (by omega), List.getElem?_set_ne (by omega), List.getElem?_set_self (by omega)]; rfl
      · rw [List.getElem?_set_ne (by omega), List.getElem?_set_ne (by omega), List.getElem?_set_ne (by omega), List.getElem?_set_self (by simp; omega)]; rfl
      · rw [List.getElem?_set_ne (by omega), List.getElem?_set_ne (by omega), List.getElem?_set_self (by simp; omega)]; rfl
      · rw [List.getElem?_set_ne (by omega), List.getElem?_set_self (by simp; omega)]; rfl
      · rw [List.getElem?_set_self (by simp; omega)]; rfl
      · omega
  · rw [if_neg hi, List.getElem?_eq_none (by rw [List.length_append, hl, hc]; omega)]
set_option maxHeartbeats 4000000 in
theorem markStarS_any (g n c : Nat) (cs : List Value) (j : Nat) (w : World) (hn : n * 5 ≤ cs.length) (hc : n ≤ 1048576) (hB : Blk w g 78 cs) (h0 : 0 < j) (h1 : j ≤ 100000000) :
    Calls Tryd.prog 17 #[.slice (some ⟨g, 0, none⟩) n c, .int .i64 j] w fun e w' => ∃ ds : List Value, e = .returned (.int .i64 (((j + 5 * n : Nat)) : Int)) ∧ Blk w' g 78 ds ∧ ds.length = cs.length ∧ ds.take (n * 5) = staCells (markL j n) ∧ w.grownBy w' (some g) := by
  have hgl := hB.lt
  go_enter Tryd.func17, Tryd.ntmps17
  go_wp2_with (fail)
  go_loopw [1, 5] (fun v i wr => ∃ (k : Nat) (ds : List Value), k ≤ n ∧ i = .int .i64 k ∧ v = .int .i64 ((j + 5 * k : Nat) : Int) ∧ Blk wr g 78 ds ∧ ds.length = cs.length ∧ ds.take (k * 5) = staCells (markL j k) ∧ w.grownBy wr (some g)) (fun _ i _ => n - (intOf i).toNat)
  case atStart => exact ⟨0, cs, by omega, rfl, by go_num, hB, rfl, by simp [markL, staCells], World.grownBy.refl w _⟩
  case round =>
    obtain ⟨k, ds, hk, rfl, rfl, hD, hdl, hdt, hg⟩ := hrel
    have HDL := Lib.hid hdl; clear hdl
    have HDT := Lib.hid hdt; clear hdt
    by_cases hlt : k < n
    · have hlen : k * 5 + 5 ≤ ds.length := by have := HDL.out; omega
      go_wp2_with (fail)
      refine (markText_int (j + 5 * k) _ _ (by omega) (by omega) (by omega)).mono ?_
      rintro e w2 ⟨rfl, hb2⟩
      have hD2 := hD.keep hb2
      obtain ⟨z0, e0⟩ := at_lt (l := ds) (k := k * 5) (by omega)
      obtain ⟨z1, e1⟩ := at_lt (l := ds) (k := k * 5 + 1) (by omega)
      obtain ⟨z2, e2⟩ := at_lt (l := ds) (k := k * 5 + 2) (by omega)
      obtain ⟨z3, e3⟩ := at_lt (l := ds) (k := k * 5 + 3) (by omega)
      obtain ⟨z4, e4⟩ := at_lt (l := ds) (k := k * 5 + 4) (by omega)
      have d0 : w2.cell? ⟨g, k * 5, none⟩ = some z0 := by (rw [hD2.cell]; exact e0)
      have d1 : w2.cell? ⟨g, k * 5 + 1, none⟩ = some z1 := by (rw [hD2.cell]; exact e1)
      have d2 : w2.cell? ⟨g, k * 5 + 2, none⟩ = some z2 := by (rw [hD2.cell]; exact e2)
      have d3 : w2.cell? ⟨g, k * 5 + 3, none⟩ = some z3 := by (rw [hD2.cell]; exact e3)
      have d4 : w2.cell? ⟨g, k * 5 + 4, none⟩ = some z4 := by (rw [hD2.cell]; exact e4)
      have f0 := hD2.frozen (k * 5)
      have f1 := hD2.frozen (k * 5 + 1)
      have f2 := hD2.frozen (k * 5 + 2)
      have f3 := hD2.frozen (k * 5 + 3)
      have f4 := hD2.frozen (k * 5 + 4)
      clear e0 e1 e2 e3 e4
      go_wp2_with (fail)
      go_roundw
      case rel =>
        have hM : markL j (k + 1) = markL j k ++ [(⟨markT (j + 5 * k), (j : Int) + 5 * k + 1, (j : Int) + 5 * k + 1 + 1, (j : Int) + 5 * k + 1 + 1 + 1, (j : Int) + 5 * k + 1 + 1 + 1 + 1⟩ : Sta)] := by
          rw [markL, markSta]; congr 3 <;> omega
        exact ⟨k + 1, _, by omega, by go_num, by go_num, ((((hD2.set_ _ _).set_ _ _).set_ _ _).set_ _ _).set_ _ _, by simp only [List.length_set]; exact HDL.out, by rw [hM]; exact sta_row_set HDT.out (markL_length j k) hlen ⟨markT (j + 5 * k), (j : Int) + 5 * k + 1, (j : Int) + 5 * k + 1 + 1, (j : Int) + 5 * k + 1 + 1 + 1, (j : Int) + 5 * k + 1 + 1 + 1 + 1⟩, only_set (only_set (only_set (only_set (only_set (only_below hg hb2) _ _) _ _) _ _) _ _) _ _⟩
      case measure => simp [intOf]; omega
    · obtain rfl : k = n := by omega
      go_wp2
      go_ret
      exact ⟨ds, rfl, hD, HDL.out, HDT.out, hg⟩
end Go.Proofs.YtbpjnopnhmoigaaDoor
end
section
namespace Go.Proofs.YtbpjnopnhmoigaaDoor
set_option linter.unusedVariables false
set_option linter.unusedSimpArgs false
open Go.RowKit
/-- the value is a row made after base that reads as these numbers -/
def OwnS (w : World) (base : Nat) (v : Value) (l : List Sta) : Prop := w.ownsRow base 78 5 v l.length (staCells l)
theorem OwnS.nil (w : World) (base : Nat) : OwnS w base (.slice none 0 0) [] := World.ownsRow_nil w base _ 5
theorem OwnS.below {w w' : World} {base : Nat} {v : Value} {l : List Sta} (h : OwnS w base v l) (hb : Below w.heap.size w w') : OwnS w' base v l := own_below h hb
theorem OwnS.only {w w' : World} {base : Nat} {v : Value} {l : List Sta} {row : Option Nat} (h : OwnS w base v l) (hg : w.grownBy w' row) (hne : ∀ k, v.ownBlock = some k → row = some k → False) : OwnS w' base v l := own_only h hg hne
theorem OwnS.lt {w : World} {base : Nat} {v : Value} {l : List Sta} (h : OwnS w base v l) : ∀ k, v.ownBlock = some k → base ≤ k ∧ k < w.heap.size := World.ownsRow.lt h
theorem OwnS.alloc {w : World} {base : Nat} {v : Value} {l : List Sta} (h : OwnS w base v l) (o : Obj) : OwnS (w.alloc o) base v l := World.ownsRow.alloc h o
theorem OwnS.form {w : World} {base : Nat} {v : Value} {l : List Sta} (h : OwnS w base v l) : ∃ A c, v = .slice A l.length c ∧ Stars w A l := by
  rcases h.2 with ⟨hv, hn⟩ | ⟨g, cap, cur, hv, hr⟩
  · exact ⟨none, 0, by rw [hn]; exact hv, fun hl => by omega⟩
  · refine ⟨some ⟨g, 0, none⟩, cap, hv, Stars.of_own (base := base) (e := 78) (c := cap) (n := l.length) ?_⟩
    subst hv; exact h
theorem OwnS.blk {w : World} {base : Nat} {v : Value} {l : List Sta} (h : OwnS w base v l) : (v = .slice none 0 0 ∧ l = []) ∨ ∃ g cap cs, v = .slice (some ⟨g, 0, none⟩) l.length cap ∧ base ≤ g ∧ Blk w g 78 cs ∧ l.length * 5 ≤ cs.length ∧ cap ≤ maxLen ∧ l.length ≤ cap ∧ cs.length = cap * 5 ∧ cs.take (l.length * 5) = staCells l := by
  rcases h.2 with ⟨hv, hn⟩ | ⟨g, cap, cur, hv, hb, hg, h1, h2, h3, h4⟩
  · exact .inl ⟨hv, List.eq_nil_of_length_eq_zero hn⟩
  · exact .inr ⟨g, cap, cur.toList, hv, hb, by rw [Blk]; simpa using hg, by simp; omega, h2, h1, by simp; omega, h4⟩
theorem OwnS.of_blk {w : World} {base g cap : Nat} {l : List Sta} {cs : List Value} (hb : base ≤ g) (hB : Blk w g 78 cs) (h1 : l.length ≤ cap) (h2 : cap ≤ maxLen) (h3 : cs.length = cap * 5) (h4 : cs.take (l.length * 5) = staCells l) : OwnS w base (.slice (some ⟨g, 0, none⟩) l.length cap) l :=
  ⟨staCells_length l, .inr ⟨g, cap, cs.toArray, rfl, hb, hB, h1, h2, by simp [h3], by simpa using h4⟩⟩
theorem OwnS.at_ {w W : World} {base : Nat} {v : Value} {l : List Sta} {o : Obj} (h : OwnS w base v l) (e : W = w.alloc o) : OwnS W base v l := by rw [e]; exact h.alloc o
theorem OwnS.empty (w : World) (base : Nat) (h : base ≤ w.heap.size) : OwnS (w.alloc (.cells #[] 78)) base (.slice (some ⟨w.heap.size, 0, none⟩) 0 0) [] :=
  OwnS.of_blk (cs := []) h (Blk.new w 78 []) (Nat.le_refl _) (by simp [maxLen]) rfl rfl
/-- stars are appended -/
theorem run_app_stars (W : World) (base : Nat) (v : Value) (l ys : List Sta) (A : Option Addr) (m c : Nat) (ty : TypeId) (hown : OwnS W base v l) (hm : ys.length = m) (hc : Stars W A ys) (h0 : A = none → c = 0 ∧ m = 0) (hl : l.length + m ≤ 1099511627776) (hb : base ≤ W.heap.size) :
    ∃ v' w', (Builtin.append_ #[27, 27] ty #[v, .slice A m c]).run Tryd.prog W = .ok v' w' ∧ OwnS w' base v' (l ++ ys) ∧ W.grownBy w' v.ownBlock := by
  obtain ⟨i0, hi0, hz0, hz1, hz2⟩ := info_parts info_star
  subst hm
  cases A with
  | none =>
    obtain ⟨rfl, h2⟩ := h0 rfl
    have e : ys = [] := List.eq_nil_of_length_eq_zero h2
    subst e
    exact ⟨v, W, run_append_owned_none (P := Tryd.prog) W base _ ty _ i0 5 Tryd.underlying27 hi0 v l.length (staCells l) hown, by simpa using hown, grown_of_below (Below.refl _ _) _⟩
  | some a =>
    obtain ⟨v', w', hr, h1, h2, _⟩ := run_append_own (P := Tryd.prog) W base 27 ty 78 i0 _ 5 48 Tryd.underlying27 hi0 hz0 hz1 hz2 rfl (by decide) v l.length (staCells l) hown a ys.length c (staCells ys) (staCells_length ys) (fun j u hj => by
      have hpos : 0 < ys.length := by
        cases ys with
        | nil => simp [staCells] at hj
        | cons y ys => simp
      obtain ⟨b, o, e, hst⟩ := hc hpos
      obtain rfl : a = ⟨b, o, none⟩ := Option.some.inj e
      rw [addr_add]
      have hj2 : j < ys.length * 5 := by
        have := (List.getElem?_eq_some_iff.1 hj).1
        rw [staCells_length] at this; exact this
      obtain ⟨x, hx⟩ := at_lt (l := ys) (k := j / 5) (by omega)
      have hs := hst _ x hx
      have he := staCells_at hx (j % 5) (by omega)
      rw [show j / 5 * 5 + j % 5 = j by omega, hj] at he
      obtain ⟨d0, d1, d2, d3, d4⟩ := hs
      have hcase : j % 5 = 0 ∨ j % 5 = 1 ∨ j % 5 = 2 ∨ j % 5 = 3 ∨ j % 5 = 4 := by omega
      rcases hcase with h | h | h | h | h
      · rw [h] at he; simp only [Sta.cells, List.getElem?_cons_zero, Option.some.injEq] at he; subst he; rw [show o + j = o + j / 5 * 5 by omega]; exact d0
      · rw [h] at he; simp only [Sta.cells, List.getElem?_cons_succ, List.getElem?_cons_zero, Option.some.injEq] at he; subst he; rw [show o + j = o + j / 5 * 5 + 1 by omega]; exact d1
      · rw [h] at he; simp only [Sta.cells, List.getElem?_cons_succ, List.getElem?_cons_zero, Option.some.injEq] at he; subst he; rw [show o + j = o + j / 5 * 5 + 2 by omega]; exact d2
      · rw [h] at he; simp only [Sta.cells, List.getElem?_cons_succ, List.getElem?_cons_zero, Option.some.injEq] at he; subst he; rw [show o + j = o + j / 5 * 5 + 3 by omega]; exact d3
      · rw [h] at he; simp only [Sta.cells, List.getElem?_cons_succ, List.getElem?_cons_zero, Option.some.injEq] at he; subst he; rw [show o + j = o + j / 5 * 5 + 4 by omega]; exact d4)
      (fun u hu => by
        simp only [staCells, List.mem_flatMap, Sta.cells, List.mem_cons, List.not_mem_nil, or_false] at hu
        obtain ⟨x, _, h | h | h | h | h⟩ := hu <;> subst h <;> rfl)
      (by simp only [maxLen]; omega) (by omega) hb
    refine ⟨v', w', hr, ?_, h2⟩
    have e : staCells (l ++ ys) = staCells l ++ staCells ys := by simp [staCells]
    rw [OwnS, e, List.length_append]; exact h1
theorem wpList_app_stars {W : World} {ops : Array Oper} {rest : List Oper} {o : Oper} {a : Act} {Q : Exit → Act → World → Prop} (hgd : o.guard = none) (s x : Operand)
    (ho : o.op = .call { callee := .builtin .append, args := #[s, x], argTypes := #[27, 27] })
    (base : Nat) (v : Value) (l ys : List Sta) (A : Option Addr) (m c : Nat) (hs : a.eval s = v) (hx : a.eval x = .slice A m c) (hown : OwnS W base v l) (hm : ys.length = m) (hc : Stars W A ys) (h0 : A = none → c = 0 ∧ m = 0) (hl : l.length + m ≤ 1099511627776) (hb : base ≤ W.heap.size)
    (h : ∀ v' w', OwnS w' base v' (l ++ ys) → W.grownBy w' v.ownBlock → wpList Tryd.prog ops Q rest (a.put o.dst v') w') : wpList Tryd.prog ops Q (o :: rest) a W := by
  refine wpList_plain hgd fun K hK => ?_
  obtain ⟨v', w', hr, h1, h2⟩ := run_app_stars W base v l ys A m c o.type hown hm hc h0 hl hb
  unfold Oper.wp execOp
  simp only [ho, resolve, invoke, builtin, Sem.run_bind, Sem.run_pure, Result.andThen_ok, List.map_toArray, List.map_cons, List.map_nil, hs, hx, hr]
  exact hK _ _ (h v' w' h1 h2)
theorem eqOwnS_same (b1 b2 : Nat) (v1 v2 : Value) (l : List Sta) (w : World) (hl : l.length ≤ 9223372036854775807) (h1 : OwnS w b1 v1 l) (h2 : OwnS w b2 v2 l) :
    Calls Tryd.prog 16 #[v1, v2] w fun e w' => e = .returned (.bool true) ∧ Below w.heap.size w w' := by
  obtain ⟨A1, c1, rfl, i1⟩ := h1.form
  obtain ⟨A2, c2, rfl, i2⟩ := h2.form
  exact eqStarS_same A1 A2 l.length c1 c2 l w rfl hl i1 i2
set_option maxHeartbeats 1000000 in
theorem markStarS_nil (j : Nat) (w : World) (h0 : 0 < j) (h1 : j ≤ 100000000) :
    Calls Tryd.prog 17 #[.slice none 0 0, .int .i64 j] w fun e w' => e = .returned (.int .i64 j) ∧ w = w' := by
  go_enter Tryd.func17, Tryd.ntmps17
  go_wp2_with (fail)
  go_loop [1, 5] (fun v i => i = .int .i64 0 ∧ v = .int .i64 j) (fun _ i => 0)
  case atStart => exact ⟨rfl, rfl⟩
  case round =>
    obtain ⟨rfl, rfl⟩ := hrel
    go_wp2
    go_ret
    exact ⟨rfl, rfl⟩
theorem markOwnS_any (base : Nat) (v : Value) (l : List Sta) (w : World) (hl : l.length ≤ 1048576) (hown : OwnS w base v l) :
    Calls Tryd.prog 17 #[v, .int .i64 1] w fun e w' => e = .returned (.int .i64 (1 + 5 * (l.length : Int))) ∧ OwnS w' base v (markL 1 l.length) ∧ w.grownBy w' v.ownBlock := by
  rcases hown.blk with ⟨rfl, rfl⟩ | ⟨g, cap, cs, rfl, hb, hB, h2, h3, h4, h5, h6⟩
  · refine (markStarS_nil 1 w (by omega) (by omega)).mono ?_
    rintro e w' ⟨rfl, rfl⟩
    exact ⟨rfl, OwnS.nil _ _, grown_of_below (Below.refl _ _) _⟩
  · refine (markStarS_any g l.length cap cs 1 w h2 hl hB (by omega) (by omega)).mono ?_
    rintro e w' ⟨ds, rfl, hD, hdl, hdt, hg⟩
    refine ⟨by congr 2, ?_, hg⟩
    have := OwnS.of_blk (l := markL 1 l.length) hb hD (by rw [markL_length]; exact h4) h3 (by omega) (by rw [markL_length]; exact hdt)
    rw [markL_length] at this; exact this
end Go.Proofs.YtbpjnopnhmoigaaDoor
end
section
namespace Go.Proofs.YtbpjnopnhmoigaaDoor
set_option linter.unusedVariables false
set_option linter.unusedSimpArgs false
open Go.RowKit
theorem Ints.take {w : World} {A : Option Addr} {l : List Int} (h : Ints w A l) (k : Nat) : Ints w A (l.take k) := fun hl => by
  obtain ⟨b, o, e, hc⟩ := h (by rw [List.length_take] at hl; omega)
  refine ⟨b, o, e, fun i x hx => hc i x ?_⟩
  rw [List.getElem?_take] at hx
  split at hx
  · exact hx
  · cases hx
theorem Ints.drop {w : World} {b o c : Nat} {l : List Int} (h : Ints w (some ⟨b, o, none⟩) l) (k : Nat) (hc : l.length ≤ c) : Ints w (if c = k then some ⟨b, o, none⟩ else some ⟨b, o + k, none⟩) (l.drop k) := fun hl => by
  rw [List.length_drop] at hl
  obtain ⟨b', o', e, hs⟩ := h (by omega)
  obtain ⟨rfl, rfl⟩ : b = b' ∧ o = o' := by injection e with e; injection e with e1 e2; exact ⟨e1, e2⟩
  refine ⟨b, o + k, by rw [if_neg (by omega)], fun i x hx => ?_⟩
  rw [List.getElem?_drop] at hx
  have := hs _ _ hx
  rw [show o + k + i = o + (k + i) by omega]; exact this
theorem run_app_ints (W : World) (base : Nat) (v : Value) (l ys : List Int) (A : Option Addr) (m c : Nat) (ty : TypeId) (hown : OwnI W base v l) (hm : ys.length = m) (hc : Ints W A ys) (h0 : A = none → c = 0 ∧ m = 0) (hl : l.length + m ≤ 1099511627776) (hb : base ≤ W.heap.size) :
    ∃ v' w', (Builtin.append_ #[24, 24] ty #[v, .slice A m c]).run Tryd.prog W = .ok v' w' ∧ OwnI w' base v' (l ++ ys) ∧ W.grownBy w' v.ownBlock := by
  obtain ⟨i0, hi0, hz0, hz1, hz2⟩ := info_parts info_num
  subst hm
  cases A with
  | none =>
    obtain ⟨rfl, h2⟩ := h0 rfl
    have e : ys = [] := List.eq_nil_of_length_eq_zero h2
    subst e
    exact ⟨v, W, run_append_owned_none (P := Tryd.prog) W base _ ty _ i0 1 Tryd.underlying24 hi0 v l.length (numCells l) hown, by simpa using hown, grown_of_below (Below.refl _ _) _⟩
  | some a =>
    have hl1 : l.length + ys.length ≤ maxLen := Nat.le_trans hl (by decide)
    have hl2 := Nat.mul_le_mul_right 8 hl
    obtain ⟨v', w', hr, h1, h2, _⟩ := run_append_own (P := Tryd.prog) W base 24 ty 2 i0 _ 1 8 Tryd.underlying24 hi0 hz0 hz1 hz2 rfl (by decide) v l.length (numCells l) hown a ys.length c (numCells ys) (by rw [numCells_length, Nat.mul_one]) (fun j u hj => by
      have hpos : 0 < ys.length := by
        have := (List.getElem?_eq_some_iff.1 hj).1
        rw [numCells_length] at this; omega
      obtain ⟨b, o, e, hst⟩ := hc hpos
      obtain rfl : a = ⟨b, o, none⟩ := Option.some.inj e
      rw [addr_add]
      have hj2 : j < ys.length := by
        have := (List.getElem?_eq_some_iff.1 hj).1
        rw [numCells_length] at this; exact this
      obtain ⟨x, hx⟩ := at_lt (l := ys) (k := j) hj2
      have hu : Value.int .i64 x = u := Option.some.inj ((numCells_at hx).symm.trans hj)
      rw [← hu]
      exact hst j x hx)
      (fun u hu => by
        simp only [numCells, List.mem_map] at hu
        obtain ⟨x, _, h⟩ := hu; subst h; rfl)
      hl1 (Nat.le_trans hl2 (by decide)) hb
    refine ⟨v', w', hr, ?_, h2⟩
    have e : numCells (l ++ ys) = numCells l ++ numCells ys := by simp [numCells]
    rw [OwnI, e, List.length_append]; exact h1
theorem wpList_app_ints {W : World} {ops : Array Oper} {rest : List Oper} {o : Oper} {a : Act} {Q : Exit → Act → World → Prop} (hgd : o.guard = none) (s x : Operand)
    (ho : o.op = .call { callee := .builtin .append, args := #[s, x], argTypes := #[24, 24] })
    (base : Nat) (v : Value) (l ys : List Int) (A : Option Addr) (m c : Nat) (hs : a.eval s = v) (hx : a.eval x = .slice A m c) (hown : OwnI W base v l) (hm : ys.length = m) (hc : Ints W A ys) (h0 : A = none → c = 0 ∧ m = 0) (hl : l.length + m ≤ 1099511627776) (hb : base ≤ W.heap.size)
    (h : ∀ v' w', OwnI w' base v' (l ++ ys) → W.grownBy w' v.ownBlock → wpList Tryd.prog ops Q rest (a.put o.dst v') w') : wpList Tryd.prog ops Q (o :: rest) a W := by
  refine wpList_plain hgd fun K hK => ?_
  obtain ⟨v', w', hr, h1, h2⟩ := run_app_ints W base v l ys A m c o.type hown hm hc h0 hl hb
  unfold Oper.wp execOp
  simp only [ho, resolve, invoke, builtin, Sem.run_bind, Sem.run_pure, Result.andThen_ok, List.map_toArray, List.map_cons, List.map_nil, hs, hx, hr]
  exact hK _ _ (h v' w' h1 h2)
theorem OwnI.base_le {w : World} {b1 b2 : Nat} {v : Value} {l : List Int} (h : OwnI w b1 v l) (hb : b2 ≤ b1) : OwnI w b2 v l := by
  refine ⟨h.1, ?_⟩
  rcases h.2 with h2 | ⟨g, cap, cur, h1, h2, hr⟩
  · exact .inl h2
  · exact .inr ⟨g, cap, cur, h1, Nat.le_trans hb h2, hr⟩
theorem OwnI.form2 {w : World} {base : Nat} {v : Value} {l : List Int} (h : OwnI w base v l) : ∃ A c, v = .slice A l.length c ∧ Ints w A l ∧ l.length ≤ c ∧ c ≤ 9223372036854775807 ∧ (A = none → c = 0 ∧ l.length = 0) ∧ (A = none ∨ ∃ g, A = some ⟨g, 0, none⟩) := by
  rcases h.blk with ⟨rfl, rfl⟩ | ⟨g, cap, cs, rfl, hb, hB, h2, h3, h4, h5⟩
  · exact ⟨none, 0, rfl, fun h => absurd h (by simp), by simp, by omega, fun _ => ⟨rfl, rfl⟩, .inl rfl⟩
  · obtain ⟨A, c, e, hI⟩ := h.form
    injection e with e1 e2 e3
    subst e1 e3
    exact ⟨_, _, rfl, hI, h4, by unfold maxLen at h3; omega, fun h => (by cases h), .inr ⟨g, rfl⟩⟩
set_option maxHeartbeats 1000000 in
theorem l00Own_any (A : Option Addr) (n c base : Nat) (l : List Int) (w : World) (hl : l.length = n) (hn : n ≤ 1048576) (hc : n ≤ c) (hc2 : c ≤ 9223372036854775807) (h0 : A = none → c = 0 ∧ n = 0) (hA : Ints w A l) (hb : base ≤ w.heap.size) :
    Calls Tryd.prog 76 #[.slice A n c] w fun e w' => ∃ v : Value, e = .returned v ∧ OwnI w' base v l ∧ Below w.heap.size w w' := by
  have HL := Lib.hid hl; clear hl
  have hb0 : Below w.heap.size w (w.alloc (.cells #[] 2)) := below_alloc (Below.refl _ _) _
  have hE := (OwnI.empty w w.heap.size (Nat.le_refl _))
  have hA1 := hA.below hb0
  have H0 := Lib.hid h0
  clear h0 hA
  go_enter Tryd.func76, Tryd.ntmps76
  go_wp2_with (at_builtin; refine wpList_app_ints rfl (.tmp 3) (.tmp 4) rfl w.heap.size _ [] l A n c rfl rfl hE HL.out hA1 H0.out (by simp only [List.length_nil]; omega) hb0.size ?_; intro v7 w7 hO7 hg7)
  go_ret
  exact ⟨v7, rfl, by simpa using hO7.base_le hb, below_of_grown hb0 hg7 hb0.size (fun q hq => (hE.lt q hq).1)⟩
end Go.Proofs.YtbpjnopnhmoigaaDoor
end
