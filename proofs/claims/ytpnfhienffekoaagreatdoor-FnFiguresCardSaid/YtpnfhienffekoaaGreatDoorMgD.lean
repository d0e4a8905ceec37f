/- Txt, Strs, Dec, Word, in one text. -/
import Derived.Test.YtpnfhienffekoaaGreatDoorMgB
import Derived.Test.YtpnfhienffekoaaGreatDoorMgM
import Derived.Test.YtpnfhienffekoaaGreatDoorShelf
import Derived.Lib.SlBytesRow
import Derived.Lib.BufferRead
namespace Go.Proofs.YtpnfhienffekoaaGreatDoor
set_option linter.unusedVariables false
set_option linter.unusedSimpArgs false
open Go.RowKit Go.Sort
/-- a text of these bytes -/
def tx (l : List UInt8) : ByteArray := ⟨l.toArray⟩
theorem tx_data (l : List UInt8) : (tx l).data.toList = l := by simp [tx]
theorem ba_ext {a b : ByteArray} (h : a.data.toList = b.data.toList) : a = b := ByteArray.ext (Array.toList_inj.1 h)
theorem tx_eq {a : ByteArray} {l : List UInt8} (h : a.data.toList = l) : a = tx l := ba_ext (by rw [tx_data]; exact h)
theorem tx_self (a : ByteArray) : tx a.data.toList = a := ba_ext (tx_data _)
theorem tx_size (l : List UInt8) : (tx l).size = l.length := by rw [← len_data, tx_data]
theorem ba_append (a b : ByteArray) : (a ++ b).data.toList = a.data.toList ++ b.data.toList := by simp
theorem ret_str {a : ByteArray} {l : List UInt8} (h : a.data.toList = l) : Ending.returned (.string a) = .returned (.string (tx l)) := by rw [tx_eq h]
theorem below_grow_drew (w : World) (k : Nat) (os : Array Obj) : Below w.heap.size w (grow (w.drewN k) os) := ⟨rfl, rfl, rfl, by simp [grow], fun q hq => by simp [grow, Array.getElem?_append_left, hq]⟩
theorem tabIs_below {P : Program} {w w' : World} {name : String} {k : IntKind} {zs : List Int} (h : Lib.TabIs P w name k zs) (hb : Below w.heap.size w w') : Lib.TabIs P w' name k zs := by
  unfold Lib.TabIs at *
  unfold World.var? at *
  cases hg : P.globalNamed name with
  | none => rw [hg] at h; cases h
  | some g =>
    rw [hg] at h
    simp only [Option.bind_some] at h ⊢
    have hl : g < w.heap.size := by
      rcases Nat.lt_or_ge g w.heap.size with h1 | h1
      · exact h1
      · rw [Array.getElem?_eq_none h1] at h; cases h
    rw [hb.block g hl]; exact h
/-- digits from the last one -/
def revD (u : Nat) : List UInt8 := if h : u = 0 then [] else UInt8.ofNat (48 + u % 10) :: revD (u / 10)
termination_by u
decreasing_by omega
theorem revD_zero : revD 0 = [] := by rw [revD, dif_pos rfl]
theorem revD_pos {u : Nat} (h : u ≠ 0) : revD u = UInt8.ofNat (48 + u % 10) :: revD (u / 10) := by rw [revD, dif_neg h]
theorem revD_dec (u : Nat) (h : 1 ≤ u) : (revD u).reverse = Lib.decDigits u := by
  induction u using Nat.strongRecOn with
  | _ u ih =>
    rw [revD_pos (by omega), List.reverse_cons]
    by_cases h1 : u < 10
    · rw [show u / 10 = 0 by omega, revD_zero, Lib.decDigits_one h1, show u % 10 = u by omega]; rfl
    · rw [ih (u / 10) (by omega) (by omega), decDigits_big h1]
theorem revD_len (u : Nat) (h : u ≤ 9223372036854775808) : (revD u).length ≤ 20 := by
  by_cases h0 : u = 0
  · subst h0; rw [revD_zero]; simp
  · have e := congrArg List.length (revD_dec u (by omega))
    rw [List.length_reverse] at e
    have h2 : (Lib.itoa (u : Int)).length = (Lib.decDigits u).length := by rw [itoa_of_nat]
    have h3 := Lib.itoa_length_le (-(u : Int)) (by omega) (by omega)
    rw [Lib.itoa_neg u (by omega), List.length_cons] at h3
    omega
theorem info_byte : (Tryz.prog.info? 5).map (fun i => (i.zero, i.size, i.bytes)) = some (some (.int .u8 0), 1, 1) := by kernel_rfl
def byteCells (l : List UInt8) : List Value := l.map fun b => Value.int .u8 b.toNat
theorem byteCells_length (l : List UInt8) : (byteCells l).length = l.length := by simp [byteCells]
/-- the value is a row made after base that reads as these bytes -/
def OwnB (w : World) (base : Nat) (v : Value) (l : List UInt8) : Prop := w.ownsRow base 5 1 v l.length (byteCells l)
theorem OwnB.below {w w' : World} {base : Nat} {v : Value} {l : List UInt8} (h : OwnB w base v l) (hb : Below w.heap.size w w') : OwnB w' base v l := own_below h hb
theorem OwnB.lt {w : World} {base : Nat} {v : Value} {l : List UInt8} (h : OwnB w base v l) : ∀ k, v.ownBlock = some k → base ≤ k ∧ k < w.heap.size := World.ownsRow.lt h
theorem OwnB.alloc {w : World} {base : Nat} {v : Value} {l : List UInt8} (h : OwnB w base v l) (o : Obj) : OwnB (w.alloc o) base v l := World.ownsRow.alloc h o
theorem OwnB.only {w w' : World} {base : Nat} {v : Value} {l : List UInt8} {row : Option Nat} (h : OwnB w base v l) (hg : w.grownBy w' row) (hne : ∀ k, v.ownBlock = some k → row = some k → False) : OwnB w' base v l := own_only h hg hne
theorem OwnB.empty (w : World) (base : Nat) (h : base ≤ w.heap.size) : OwnB (w.alloc (.cells #[] 5)) base (.slice (some ⟨w.heap.size, 0, none⟩) 0 0) [] :=
  ⟨rfl, .inr ⟨w.heap.size, 0, #[], rfl, h, by have := Blk.new w 5 []; exact this, Nat.le_refl _, by simp [maxLen], rfl, rfl⟩⟩
theorem run_app_byte (W : World) (base : Nat) (v : Value) (l : List UInt8) (y : UInt8) (b c : Nat) (ty : TypeId) (hown : OwnB W base v l) (hc : W.cell? ⟨b, 0, none⟩ = some (.int .u8 y.toNat)) (hl : l.length ≤ 1099511627776) (hb : base ≤ W.heap.size) :
    ∃ v' w', (Builtin.append_ #[22, 22] ty #[v, .slice (some ⟨b, 0, none⟩) 1 c]).run Tryz.prog W = .ok v' w' ∧ OwnB w' base v' (l ++ [y]) ∧ W.grownBy w' v.ownBlock ∧ v' ≠ .slice none 0 0 := by
  obtain ⟨i0, hi0, hz0, hz1, hz2⟩ := info_parts info_byte
  obtain ⟨v', w', hr, h1, h2, h3⟩ := run_append_own (P := Tryz.prog) W base 22 ty 5 i0 _ 1 1 Tryz.underlying22 hi0 hz0 hz1 hz2 rfl (by decide) v l.length (byteCells l) hown ⟨b, 0, none⟩ 1 c [.int .u8 y.toNat] rfl (fun j u hj => by
      cases j with
      | zero => simp only [List.getElem?_cons_zero, Option.some.injEq] at hj; subst hj; rw [addr_add]; exact hc
      | succ j => simp at hj) (fun u hu => by simp only [List.mem_singleton] at hu; subst hu; rfl) (by simp only [maxLen]; omega) (by omega) hb
  refine ⟨v', w', hr, ?_, h2, fun e => by have := (h3.1 e).2; omega⟩
  have e : byteCells (l ++ [y]) = byteCells l ++ [.int .u8 y.toNat] := by simp [byteCells]
  rw [OwnB, e, List.length_append]; exact h1
theorem wpList_app_byte {W : World} {ops : Array Oper} {rest : List Oper} {o : Oper} {a : Act} {Q : Exit → Act → World → Prop} (hgd : o.guard = none) (s x : Operand)
    (ho : o.op = .call { callee := .builtin .append, args := #[s, x], argTypes := #[22, 22] })
    (base : Nat) (v : Value) (l : List UInt8) (y : UInt8) (b c : Nat) (hs : a.eval s = v) (hx : a.eval x = .slice (some ⟨b, 0, none⟩) 1 c) (hown : OwnB W base v l) (hc : W.cell? ⟨b, 0, none⟩ = some (.int .u8 y.toNat)) (hl : l.length ≤ 1099511627776) (hb : base ≤ W.heap.size)
    (h : ∀ v' w', OwnB w' base v' (l ++ [y]) → W.grownBy w' v.ownBlock → v' ≠ .slice none 0 0 → wpList Tryz.prog ops Q rest (a.put o.dst v') w') : wpList Tryz.prog ops Q (o :: rest) a W := by
  refine wpList_plain hgd fun K hK => ?_
  obtain ⟨v', w', hr, h1, h2, h3⟩ := run_app_byte W base v l y b c o.type hown hc hl hb
  unfold Oper.wp execOp
  simp only [ho, resolve, invoke, builtin, Sem.run_bind, Sem.run_pure, Result.andThen_ok, List.map_toArray, List.map_cons, List.map_nil, hs, hx, hr]
  exact hK _ _ (h v' w' h1 h2 h3)
theorem OwnB.form {w : World} {base : Nat} {v : Value} {l : List UInt8} (h : OwnB w base v l) : (v = .slice none 0 0 ∧ l = []) ∨ ∃ g cap, v = .slice (some ⟨g, 0, none⟩) l.length cap ∧ base ≤ g ∧ g < w.heap.size ∧ l.length ≤ cap ∧ cap ≤ 9223372036854775807 ∧ ∀ (j : Nat) b, l[j]? = some b → w.cell? ⟨g, j, none⟩ = some (.int .u8 b.toNat) := by
  rcases h.2 with ⟨hv, hn⟩ | ⟨g, cap, cur, hv, hb, hg, h1, h2, h3, h4⟩
  · exact .inl ⟨hv, List.eq_nil_of_length_eq_zero hn⟩
  · subst hv
    refine .inr ⟨g, cap, rfl, hb, (World.ownsRow.lt h g rfl).2, h1, by unfold maxLen at h2; omega, fun j b hj => ?_⟩
    have := World.ownsRow.cells h (g := g) rfl j (.int .u8 b.toNat) (by simp [byteCells, hj])
    rw [addr_add] at this
    simpa using this
theorem OwnB.form1 {w : World} {base : Nat} {v : Value} {l : List UInt8} (h : OwnB w base v l) (h0 : 0 < l.length) : ∃ g cap N, v = .slice (some ⟨g, 0, none⟩) N cap ∧ l.length = N ∧ base ≤ g ∧ g < w.heap.size ∧ N ≤ cap ∧ cap ≤ 9223372036854775807 ∧ ∀ (j : Nat) b, l[j]? = some b → w.cell? ⟨g, j, none⟩ = some (.int .u8 b.toNat) := by
  rcases h.form with ⟨_, rfl⟩ | ⟨g, cap, hv, h1, h2, h3, h4, h5⟩
  · simp at h0
  · exact ⟨g, cap, _, hv, rfl, h1, h2, h3, h4, h5⟩
/-- a row of bytes as a text -/
theorem OwnB.text {w : World} {base : Nat} {v : Value} {l : List UInt8} (h : OwnB w base v l) : (convert 22 9 v).run Tryz.prog w = .ok (.string (tx l)) w := by
  rcases h.form with ⟨rfl, rfl⟩ | ⟨g, cap, rfl, _, _, _, _, hc⟩
  · exact Lib.run_convert_nil_bytes w _ _ _ 0 Tryz.underlying22 Tryz.underlying5 Tryz.underlying9
  · have := Lib.run_convert_whole (P := Tryz.prog) w _ _ _ Tryz.underlying22 Tryz.underlying5 Tryz.underlying9 g 0 (tx l) (fun i hi => by
      have hi' : i < l.length := by rwa [tx_size] at hi
      have := hc i l[i] (List.getElem?_eq_getElem hi')
      rw [Nat.zero_add, this]; rfl) cap
    rw [tx_size] at this; exact this
/-- two texts joined -/
theorem run_add_tx (a b : ByteArray) (l1 l2 : List UInt8) (ha : a.data.toList = l1) (hb : b.data.toList = l2) (h : l1.length + l2.length ≤ 9223372036854775807) (W : World) : (Op.stringOp .add a b).run Tryz.prog W = .ok (.string (tx (l1 ++ l2))) W := by
  have h1 : a.size = l1.length := by rw [← ha, len_data]
  have h2 : b.size = l2.length := by rw [← hb, len_data]
  have e : tx (l1 ++ l2) = a ++ b := (tx_eq (by rw [ba_append, ha, hb])).symm
  have hm : ¬ (((a.size + b.size : Nat) : Int) > IntKind.i64.max) := by
    have : IntKind.i64.max = 9223372036854775807 := by decide
    omega
  rw [e]
  unfold Op.stringOp
  simp only [if_neg hm]
  rfl
/-- two texts joined, under a name -/
theorem add_ex (a b : ByteArray) {l1 l2 : List UInt8} (ha : Hid (a.data.toList = l1)) (hb : Hid (b.data.toList = l2)) (h : l1.length + l2.length ≤ 9223372036854775807) : ∃ c : ByteArray, (∀ W : World, (Op.stringOp .add a b).run Tryz.prog W = .ok (.string c) W) ∧ Hid (c.data.toList = l1 ++ l2) :=
  ⟨tx (l1 ++ l2), fun W => run_add_tx a b l1 l2 ha.out hb.out h W, Lib.hid (tx_data _)⟩
theorem hid_data (a : ByteArray) : Hid (a.data.toList = a.data.toList) := Lib.hid rfl
theorem hid_tx (l : List UInt8) : Hid ((tx l).data.toList = l) := Lib.hid (tx_data l)
theorem hid_blank : Hid ((⟨#[32]⟩ : ByteArray).data.toList = [32]) := Lib.hid rfl
theorem itoa_len21 (n : Int) (h : I64 n) : (Lib.itoa n).length ≤ 21 := Lib.itoa_length_le n h.1 h.2
theorem name_len {l : List UInt8} (h : isName l = true) : l.length ≤ 10 := by
  cases l with
  | nil => simp
  | cons c r => simp [isName] at h; simp; omega
/-- the table of the powers of ten -/
def PowOk (w : World) : Prop := Lib.TabIs Tryz.prog w "internal/strconv.uint64pow10" .u64 Lib.pow10Tab
theorem PowOk.below {w w' : World} (h : PowOk w) (hb : Below w.heap.size w w') : PowOk w' := tabIs_below h hb
theorem FormatInt_any (n : Int) (w : World) (h : I64 n) (hP : PowOk w) : Calls Tryz.prog 116 #[.int .i64 n, .int .i64 10] w fun e w' => e = .returned (.string (tx (Lib.itoa n))) ∧ Below w.heap.size w w' :=
  (Any.strconv_FormatInt_10 Tryz.laysFmt n h.1 h.2 w hP).mono fun e w' ⟨he, k, os, hw⟩ => ⟨he, by rw [hw]; exact below_grow_drew w k os⟩
theorem Decimal_any (n : Int) (w : World) (h : I64 n) (hP : PowOk w) : Calls Tryz.prog 75 #[.int .i64 n] w fun e w' => e = .returned (.string (tx (Lib.itoa n))) ∧ Below w.heap.size w w' := by
  go_enter Tryz.func75, Tryz.ntmps75
  go_wp2_with (refine (FormatInt_any n _ h hP).mono ?_; rintro e w1 ⟨rfl, hb1⟩)
  go_ret
  exact ⟨rfl, hb1⟩
end Go.Proofs.YtpnfhienffekoaaGreatDoor
namespace Go.Proofs.YtpnfhienffekoaaGreatDoor
set_option linter.unusedVariables false
set_option linter.unusedSimpArgs false
open Go.RowKit
def strCells (l : List ByteArray) : List Value := l.map Value.string
theorem strCells_length (l : List ByteArray) : (strCells l).length = l.length := by simp [strCells]
theorem strCells_at {l : List ByteArray} {k : Nat} {x : ByteArray} (h : l[k]? = some x) : (strCells l)[k]? = some (.string x) := by simp [strCells, h]
/-- the slice that begins there reads as these texts -/
def Strs (w : World) (A : Option Addr) (l : List ByteArray) : Prop := 0 < l.length → ∃ b o, A = some ⟨b, o, none⟩ ∧ ∀ k x, l[k]? = some x → w.cell? ⟨b, o + k, none⟩ = some (.string x)
theorem Strs.below {w w' : World} {A : Option Addr} {l : List ByteArray} (h : Strs w A l) (hb : Below w.heap.size w w') : Strs w' A l := fun hl => by
  obtain ⟨b, o, e, h1⟩ := h hl
  refine ⟨b, o, e, fun k x hx => ?_⟩
  have hlt := World.block_lt_of_cell? w ⟨b, o + k, none⟩ (h1 k x hx)
  rw [hb.cell (by simpa using hlt)]; exact h1 k x hx
theorem Strs.later {w : World} {A : Option Addr} {l : List ByteArray} (h : Strs w A l) (y : Later w) : Strs y.w A l := h.below y.below
theorem Strs.only {w w' : World} {A : Option Addr} {l : List ByteArray} {g : Nat} (h : Strs w A l) (k : w.grownBy w' (some g)) (hne : ∀ a, 0 < l.length → A = some a → a.block ≠ g) : Strs w' A l := fun hl => by
  obtain ⟨b, o, rfl, hc⟩ := h hl
  have hb : b ≠ g := hne ⟨b, o, none⟩ hl rfl
  refine ⟨b, o, rfl, fun i x hx => ?_⟩
  have hlt := World.block_lt_of_cell? w ⟨b, o + i, none⟩ (hc i x hx)
  have e := k.block b hlt (fun e => hb (by injection e))
  exact (World.cell?_of_block e).trans (hc i x hx)
theorem Strs.drop {w : World} {b o c : Nat} {l : List ByteArray} (h : Strs w (some ⟨b, o, none⟩) l) (k : Nat) (hc : l.length ≤ c) : Strs w (if c = k then some ⟨b, o, none⟩ else some ⟨b, o + k, none⟩) (l.drop k) := fun hl => by
  rw [List.length_drop] at hl
  obtain ⟨b', o', e, hs⟩ := h (by omega)
  obtain ⟨rfl, rfl⟩ : b = b' ∧ o = o' := by injection e with e; injection e with e1 e2; exact ⟨e1, e2⟩
  refine ⟨b, o + k, by rw [if_neg (by omega)], fun i x hx => ?_⟩
  rw [List.getElem?_drop] at hx
  have := hs _ _ hx
  rw [show o + k + i = o + (k + i) by omega]; exact this
theorem Blk.strs {w : World} {g : Nat} {t : TypeId} {l : List ByteArray} (h : Blk w g t (strCells l)) : Strs w (some ⟨g, 0, none⟩) l := fun _ => ⟨g, 0, rfl, fun k x hx => by rw [h.cell]; simpa using strCells_at hx⟩
theorem Strs.of_own {w : World} {base : Nat} {e : TypeId} {A : Option Addr} {n c : Nat} {l : List ByteArray} (h : w.ownsRow base e 1 (.slice A n c) n (strCells l)) : Strs w A l := fun hl => by
  rcases h.2 with ⟨hv, hn⟩ | ⟨g, cap, cur, hv, _, hh, _, _, hs, ht⟩
  · exfalso
    have := h.1
    rw [strCells_length, hn] at this; omega
  · injection hv with hA _ _
    subst hA
    refine ⟨g, 0, rfl, fun k x hx => ?_⟩
    have hu := strCells_at hx
    rw [← ht, List.getElem?_take] at hu
    split at hu
    · rw [cell_of_row w g (0 + k) cur e (0, 0) hh]; simpa using hu
    · cases hu
theorem info_str : (Tryz.prog.info? 9).map (fun i => (i.zero, i.size, i.bytes)) = some (some (.string ByteArray.empty), 1, 16) := by kernel_rfl
/-- the value is a row made after base that reads as these texts -/
def OwnT (w : World) (base : Nat) (v : Value) (l : List ByteArray) : Prop := w.ownsRow base 9 1 v l.length (strCells l)
theorem OwnT.nil (w : World) (base : Nat) : OwnT w base (.slice none 0 0) [] := World.ownsRow_nil w base _ 1
theorem OwnT.below {w w' : World} {base : Nat} {v : Value} {l : List ByteArray} (h : OwnT w base v l) (hb : Below w.heap.size w w') : OwnT w' base v l := own_below h hb
theorem OwnT.lt {w : World} {base : Nat} {v : Value} {l : List ByteArray} (h : OwnT w base v l) : ∀ k, v.ownBlock = some k → base ≤ k ∧ k < w.heap.size := World.ownsRow.lt h
theorem OwnT.alloc {w : World} {base : Nat} {v : Value} {l : List ByteArray} (h : OwnT w base v l) (o : Obj) : OwnT (w.alloc o) base v l := World.ownsRow.alloc h o
theorem OwnT.form {w : World} {base : Nat} {v : Value} {l : List ByteArray} (h : OwnT w base v l) : ∃ A c, v = .slice A l.length c ∧ Strs w A l ∧ l.length ≤ c ∧ c ≤ 9223372036854775807 ∧ (A = none → c = 0 ∧ l.length = 0) ∧ (A = none ∨ ∃ g, A = some ⟨g, 0, none⟩) := by
  rcases id h.2 with ⟨hv, hn⟩ | ⟨g, cap, cur, hv, hr⟩
  · exact ⟨none, 0, by rw [hn]; exact hv, fun hl => by omega, by omega, by omega, fun _ => ⟨rfl, hn⟩, .inl rfl⟩
  · obtain ⟨_, _, h3, h4, _⟩ := hr
    refine ⟨some ⟨g, 0, none⟩, cap, hv, Strs.of_own (base := base) (e := 9) (c := cap) (n := l.length) ?_, h3, by unfold maxLen at h4; omega, fun e => (by cases e), .inr ⟨g, rfl⟩⟩
    subst hv; exact h
theorem OwnT.empty (w : World) (base : Nat) (h : base ≤ w.heap.size) : OwnT (w.alloc (.cells #[] 9)) base (.slice (some ⟨w.heap.size, 0, none⟩) 0 0) [] :=
  ⟨rfl, .inr ⟨w.heap.size, 0, #[], rfl, h, by have := Blk.new w 9 []; exact this, Nat.le_refl _, by simp [maxLen], rfl, rfl⟩⟩
theorem OwnT.base_le {w : World} {b1 b2 : Nat} {v : Value} {l : List ByteArray} (h : OwnT w b1 v l) (hb : b2 ≤ b1) : OwnT w b2 v l := by
  refine ⟨h.1, ?_⟩
  rcases h.2 with h2 | ⟨g, cap, cur, h1, h2, hr⟩
  · exact .inl h2
  · exact .inr ⟨g, cap, cur, h1, Nat.le_trans hb h2, hr⟩
/-- one text is appended -/
theorem run_app_str (W : World) (base : Nat) (v : Value) (l : List ByteArray) (y : ByteArray) (b c : Nat) (ty : TypeId) (hown : OwnT W base v l) (hc : W.cell? ⟨b, 0, none⟩ = some (.string y)) (hl : l.length ≤ 1099511627776) (hb : base ≤ W.heap.size) :
    ∃ v' w', (Builtin.append_ #[104, 104] ty #[v, .slice (some ⟨b, 0, none⟩) 1 c]).run Tryz.prog W = .ok v' w' ∧ OwnT w' base v' (l ++ [y]) ∧ W.grownBy w' v.ownBlock ∧ v' ≠ .slice none 0 0 := by
  obtain ⟨i0, hi0, hz0, hz1, hz2⟩ := info_parts info_str
  obtain ⟨v', w', hr, h1, h2, h3⟩ := run_append_own (P := Tryz.prog) W base 104 ty 9 i0 _ 1 16 Tryz.underlying104 hi0 hz0 hz1 hz2 rfl (by decide) v l.length (strCells l) hown ⟨b, 0, none⟩ 1 c [.string y] rfl (fun j u hj => by
      cases j with
      | zero => simp only [List.getElem?_cons_zero, Option.some.injEq] at hj; subst hj; rw [addr_add]; exact hc
      | succ j => simp at hj) (fun u hu => by simp only [List.mem_singleton] at hu; subst hu; rfl) (by simp only [maxLen]; omega) (by omega) hb
  refine ⟨v', w', hr, ?_, h2, fun e => by have := (h3.1 e).2; omega⟩
  have e : strCells (l ++ [y]) = strCells l ++ [.string y] := by simp [strCells]
  rw [OwnT, e, List.length_append]; exact h1
theorem wpList_app_str {W : World} {ops : Array Oper} {rest : List Oper} {o : Oper} {a : Act} {Q : Exit → Act → World → Prop} (hgd : o.guard = none) (s x : Operand)
    (ho : o.op = .call { callee := .builtin .append, args := #[s, x], argTypes := #[104, 104] })
    (base : Nat) (v : Value) (l : List ByteArray) (y : ByteArray) (b c : Nat) (hs : a.eval s = v) (hx : a.eval x = .slice (some ⟨b, 0, none⟩) 1 c) (hown : OwnT W base v l) (hc : W.cell? ⟨b, 0, none⟩ = some (.string y)) (hl : l.length ≤ 1099511627776) (hb : base ≤ W.heap.size)
    (h : ∀ v' w', OwnT w' base v' (l ++ [y]) → W.grownBy w' v.ownBlock → v' ≠ .slice none 0 0 → wpList Tryz.prog ops Q rest (a.put o.dst v') w') : wpList Tryz.prog ops Q (o :: rest) a W := by
  refine wpList_plain hgd fun K hK => ?_
  obtain ⟨v', w', hr, h1, h2, h3⟩ := run_app_str W base v l y b c o.type hown hc hl hb
  unfold Oper.wp execOp
  simp only [ho, resolve, invoke, builtin, Sem.run_bind, Sem.run_pure, Result.andThen_ok, List.map_toArray, List.map_cons, List.map_nil, hs, hx, hr]
  exact hK _ _ (h v' w' h1 h2 h3)
end Go.Proofs.YtpnfhienffekoaaGreatDoor
namespace Go.Proofs.YtpnfhienffekoaaGreatDoor
set_option linter.unusedVariables false
set_option linter.unusedSimpArgs false
open Go.RowKit
end Go.Proofs.YtpnfhienffekoaaGreatDoor
namespace Go.Proofs.YtpnfhienffekoaaGreatDoor
set_option linter.unusedVariables false
set_option linter.unusedSimpArgs false
open Go.RowKit
theorem extract_tx (s : ByteArray) (f k : Nat) : s.extract f k = tx ((s.data.toList.drop f).take (k - f)) := tx_eq (Lib.extract_data s f k)
theorem extract_tx_end (s : ByteArray) (f : Nat) : s.extract f s.size = tx (s.data.toList.drop f) := by
  rw [extract_tx]
  congr 1
  exact List.take_of_length_le (by rw [List.length_drop, len_data]; omega)
theorem byte_at (s : ByteArray) (k : Nat) (h : k < s.size) : s.data.toList[k]? = some s[k] := by
  rw [List.getElem?_eq_getElem (by rw [len_data]; exact h)]
  rfl
theorem digB_isD (c : UInt8) : digB c = isD c := by
  rw [Bool.eq_iff_iff]; simp [digB, isD]; omega
theorem map_snoc_tx (P : List (List UInt8)) (x : List UInt8) : (P ++ [x]).map tx = P.map tx ++ [tx x] := by simp
theorem hid_map (P : List (List UInt8)) {y : ByteArray} {x : List UInt8} (h : y = tx x) : P.map tx ++ [y] = (P ++ [x]).map tx := by rw [h, map_snoc_tx]
end Go.Proofs.YtpnfhienffekoaaGreatDoor
