/- Texts of the program: rows of bytes, numbers in decimal. -/
import Derived.Test.YtpnfhienffekoaaGreatDoorPlainRead
import Derived.Test.YtpnfhienffekoaaGreatDoorGrpOwn
import Derived.Test.YtpnfhienffekoaaGreatDoorShelf
import Derived.Lib.SlBytesRow
import Derived.Lib.BufferRead
namespace Go.Proofs.YtpnfhienffekoaaGreatDoor
set_option linter.unusedVariables false
set_option linter.unusedSimpArgs false
open Go.RowKit Go.Sort
/-- a text of these bytes -/
def tx (l : List UInt8) : ByteArray := ⟨l.toArray⟩
theorem tx_data (l : List UInt8) : (tx l).data.toList = l := by simp [tx]
theorem ba_ext {a b : ByteArray} (h : a.data.toList = b.data.toList) : a = b := ByteArray.ext (Array.toList_inj.1 h)
theorem tx_eq {a : ByteArray} {l : List UInt8} (h : a.data.toList = l) : a = tx l := ba_ext (by rw [tx_data]; exact h)
theorem tx_self (a : ByteArray) : tx a.data.toList = a := ba_ext (tx_data _)
theorem tx_size (l : List UInt8) : (tx l).size = l.length := by rw [← len_data, tx_data]
theorem ba_append (a b : ByteArray) : (a ++ b).data.toList = a.data.toList ++ b.data.toList := by simp
theorem ret_str {a : ByteArray} {l : List UInt8} (h : a.data.toList = l) : Ending.returned (.string a) = .returned (.string (tx l)) := by rw [tx_eq h]
theorem below_grow_drew (w : World) (k : Nat) (os : Array Obj) : Below w.heap.size w (grow (w.drewN k) os) := ⟨rfl, rfl, rfl, by simp [grow], fun q hq => by simp [grow, Array.getElem?_append_left, hq]⟩
theorem tabIs_below {P : Program} {w w' : World} {name : String} {k : IntKind} {zs : List Int} (h : Lib.TabIs P w name k zs) (hb : Below w.heap.size w w') : Lib.TabIs P w' name k zs := by
  unfold Lib.TabIs at *
  unfold World.var? at *
  cases hg : P.globalNamed name with
  | none => rw [hg] at h; cases h
  | some g =>
    rw [hg] at h
    simp only [Option.bind_some] at h ⊢
    have hl : g < w.heap.size := by
      rcases Nat.lt_or_ge g w.heap.size with h1 | h1
      · exact h1
      · rw [Array.getElem?_eq_none h1] at h; cases h
    rw [hb.block g hl]; exact h
/-- digits from the last one -/
def revD (u : Nat) : List UInt8 := if h : u = 0 then [] else UInt8.ofNat (48 + u % 10) :: revD (u / 10)
termination_by u
decreasing_by omega
theorem revD_zero : revD 0 = [] := by rw [revD, dif_pos rfl]
theorem revD_pos {u : Nat} (h : u ≠ 0) : revD u = UInt8.ofNat (48 + u % 10) :: revD (u / 10) := by rw [revD, dif_neg h]
theorem revD_dec (u : Nat) (h : 1 ≤ u) : (revD u).reverse = Lib.decDigits u := by
  induction u using Nat.strongRecOn with
  | _ u ih =>
    rw [revD_pos (by omega), List.reverse_cons]
    by_cases h1 : u < 10
    · rw [show u / 10 = 0 by omega, revD_zero, Lib.decDigits_one h1, show u % 10 = u by omega]; rfl
    · rw [ih (u / 10) (by omega) (by omega), decDigits_big h1]
theorem revD_len (u : Nat) (h : u ≤ 9223372036854775808) : (revD u).length ≤ 20 := by
  by_cases h0 : u = 0
  · subst h0; rw [revD_zero]; simp
  · have e := congrArg List.length (revD_dec u (by omega))
    rw [List.length_reverse] at e
    have h2 : (Lib.itoa (u : Int)).length = (Lib.decDigits u).length := by rw [itoa_of_nat]
    have h3 := Lib.itoa_length_le (-(u : Int)) (by omega) (by omega)
    rw [Lib.itoa_neg u (by omega), List.length_cons] at h3
    omega
theorem info_byte : (Tryz.prog.info? 5).map (fun i => (i.zero, i.size, i.bytes)) = some (some (.int .u8 0), 1, 1) := by kernel_rfl
def byteCells (l : List UInt8) : List Value := l.map fun b => Value.int .u8 b.toNat
theorem byteCells_length (l : List UInt8) : (byteCells l).length = l.length := by simp [byteCells]
/-- the value is a row made after base that reads as these bytes -/
def OwnB (w : World) (base : Nat) (v : Value) (l : List UInt8) : Prop := w.ownsRow base 5 1 v l.length (byteCells l)
theorem OwnB.below {w w' : World} {base : Nat} {v : Value} {l : List UInt8} (h : OwnB w base v l) (hb : Below w.heap.size w w') : OwnB w' base v l := own_below h hb
theorem OwnB.lt {w : World} {base : Nat} {v : Value} {l : List UInt8} (h : OwnB w base v l) : ∀ k, v.ownBlock = some k → base ≤ k ∧ k < w.heap.size := World.ownsRow.lt h
theorem OwnB.alloc {w : World} {base : Nat} {v : Value} {l : List UInt8} (h : OwnB w base v l) (o : Obj) : OwnB (w.alloc o) base v l := World.ownsRow.alloc h o
theorem OwnB.only {w w' : World} {base : Nat} {v : Value} {l : List UInt8} {row : Option Nat} (h : OwnB w base v l) (hg : w.grownBy w' row) (hne : ∀ k, v.ownBlock = some k → row = some k → False) : OwnB w' base v l := own_only h hg hne
theorem OwnB.empty (w : World) (base : Nat) (h : base ≤ w.heap.size) : OwnB (w.alloc (.cells #[] 5)) base (.slice (some ⟨w.heap.size, 0, none⟩) 0 0) [] :=
  ⟨rfl, .inr ⟨w.heap.size, 0, #[], rfl, h, by have := Blk.new w 5 []; exact this, Nat.le_refl _, by simp [maxLen], rfl, rfl⟩⟩
theorem run_app_byte (W : World) (base : Nat) (v : Value) (l : List UInt8) (y : UInt8) (b c : Nat) (ty : TypeId) (hown : OwnB W base v l) (hc : W.cell? ⟨b, 0, none⟩ = some (.int .u8 y.toNat)) (hl : l.length ≤ 1099511627776) (hb : base ≤ W.heap.size) :
    ∃ v' w', (Builtin.append_ #[22, 22] ty #[v, .slice (some ⟨b, 0, none⟩) 1 c]).run Tryz.prog W = .ok v' w' ∧ OwnB w' base v' (l ++ [y]) ∧ W.grownBy w' v.ownBlock ∧ v' ≠ .slice none 0 0 := by
  obtain ⟨i0, hi0, hz0, hz1, hz2⟩ := info_parts info_byte
  obtain ⟨v', w', hr, h1, h2, h3⟩ := run_append_own (P := Tryz.prog) W base 22 ty 5 i0 _ 1 1 Tryz.underlying22 hi0 hz0 hz1 hz2 rfl (by decide) v l.length (byteCells l) hown ⟨b, 0, none⟩ 1 c [.int .u8 y.toNat] rfl (fun j u hj => by
      cases j with
      | zero => simp only [List.getElem?_cons_zero, Option.some.injEq] at hj; subst hj; rw [addr_add]; exact hc
      | succ j => simp at hj) (fun u hu => by simp only [List.mem_singleton] at hu; subst hu; rfl) (by simp only [maxLen]; omega) (by omega) hb
  refine ⟨v', w', hr, ?_, h2, fun e => by have := (h3.1 e).2; omega⟩
  have e : byteCells (l ++ [y]) = byteCells l ++ [.int .u8 y.toNat] := by simp [byteCells]
  rw [OwnB, e, List.length_append]; exact h1
theorem wpList_app_byte {W : World} {ops : Array Oper} {rest : List Oper} {o : Oper} {a : Act} {Q : Exit → Act → World → Prop} (hgd : o.guard = none) (s x : Operand)
    (ho : o.op = .call { callee := .builtin .append, args := #[s, x], argTypes := #[22, 22] })
    (base : Nat) (v : Value) (l : List UInt8) (y : UInt8) (b c : Nat) (hs : a.eval s = v) (hx : a.eval x = .slice (some ⟨b, 0, none⟩) 1 c) (hown : OwnB W base v l) (hc : W.cell? ⟨b, 0, none⟩ = some (.int .u8 y.toNat)) (hl : l.length ≤ 1099511627776) (hb : base ≤ W.heap.size)
    (h : ∀ v' w', OwnB w' base v' (l ++ [y]) → W.grownBy w' v.ownBlock → v' ≠ .slice none 0 0 → wpList Tryz.prog ops Q rest (a.put o.dst v') w') : wpList Tryz.prog ops Q (o :: rest) a W := by
  refine wpList_plain hgd fun K hK => ?_
  obtain ⟨v', w', hr, h1, h2, h3⟩ := run_app_byte W base v l y b c o.type hown hc hl hb
  unfold Oper.wp execOp
  simp only [ho, resolve, invoke, builtin, Sem.run_bind, Sem.run_pure, Result.andThen_ok, List.map_toArray, List.map_cons, List.map_nil, hs, hx, hr]
  exact hK _ _ (h v' w' h1 h2 h3)
theorem OwnB.form {w : World} {base : Nat} {v : Value} {l : List UInt8} (h : OwnB w base v l) : (v = .slice none 0 0 ∧ l = []) ∨ ∃ g cap, v = .slice (some ⟨g, 0, none⟩) l.length cap ∧ base ≤ g ∧ g < w.heap.size ∧ l.length ≤ cap ∧ cap ≤ 9223372036854775807 ∧ ∀ (j : Nat) b, l[j]? = some b → w.cell? ⟨g, j, none⟩ = some (.int .u8 b.toNat) := by
  rcases h.2 with ⟨hv, hn⟩ | ⟨g, cap, cur, hv, hb, hg, h1, h2, h3, h4⟩
  · exact .inl ⟨hv, List.eq_nil_of_length_eq_zero hn⟩
  · subst hv
    refine .inr ⟨g, cap, rfl, hb, (World.ownsRow.lt h g rfl).2, h1, by unfold maxLen at h2; omega, fun j b hj => ?_⟩
    have := World.ownsRow.cells h (g := g) rfl j (.int .u8 b.toNat) (by simp [byteCells, hj])
    rw [addr_add] at this
    simpa using this
theorem OwnB.form1 {w : World} {base : Nat} {v : Value} {l : List UInt8} (h : OwnB w base v l) (h0 : 0 < l.length) : ∃ g cap N, v = .slice (some ⟨g, 0, none⟩) N cap ∧ l.length = N ∧ base ≤ g ∧ g < w.heap.size ∧ N ≤ cap ∧ cap ≤ 9223372036854775807 ∧ ∀ (j : Nat) b, l[j]? = some b → w.cell? ⟨g, j, none⟩ = some (.int .u8 b.toNat) := by
  rcases h.form with ⟨_, rfl⟩ | ⟨g, cap, hv, h1, h2, h3, h4, h5⟩
  · simp at h0
  · exact ⟨g, cap, _, hv, rfl, h1, h2, h3, h4, h5⟩
/-- a row of bytes as a text -/
theorem OwnB.text {w : World} {base : Nat} {v : Value} {l : List UInt8} (h : OwnB w base v l) : (convert 22 9 v).run Tryz.prog w = .ok (.string (tx l)) w := by
  rcases h.form with ⟨rfl, rfl⟩ | ⟨g, cap, rfl, _, _, _, _, hc⟩
  · exact Lib.run_convert_nil_bytes w _ _ _ 0 Tryz.underlying22 Tryz.underlying5 Tryz.underlying9
  · have := Lib.run_convert_whole (P := Tryz.prog) w _ _ _ Tryz.underlying22 Tryz.underlying5 Tryz.underlying9 g 0 (tx l) (fun i hi => by
      have hi' : i < l.length := by rwa [tx_size] at hi
      have := hc i l[i] (List.getElem?_eq_getElem hi')
      rw [Nat.zero_add, this]; rfl) cap
    rw [tx_size] at this; exact this
/-- two texts joined -/
theorem run_add_tx (a b : ByteArray) (l1 l2 : List UInt8) (ha : a.data.toList = l1) (hb : b.data.toList = l2) (h : l1.length + l2.length ≤ 9223372036854775807) (W : World) : (Op.stringOp .add a b).run Tryz.prog W = .ok (.string (tx (l1 ++ l2))) W := by
  have h1 : a.size = l1.length := by rw [← ha, len_data]
  have h2 : b.size = l2.length := by rw [← hb, len_data]
  have e : tx (l1 ++ l2) = a ++ b := (tx_eq (by rw [ba_append, ha, hb])).symm
  have hm : ¬ (((a.size + b.size : Nat) : Int) > IntKind.i64.max) := by
    have : IntKind.i64.max = 9223372036854775807 := by decide
    omega
  rw [e]
  unfold Op.stringOp
  simp only [if_neg hm]
  rfl
/-- two texts joined, under a name -/
theorem add_ex (a b : ByteArray) {l1 l2 : List UInt8} (ha : Hid (a.data.toList = l1)) (hb : Hid (b.data.toList = l2)) (h : l1.length + l2.length ≤ 9223372036854775807) : ∃ c : ByteArray, (∀ W : World, (Op.stringOp .add a b).run Tryz.prog W = .ok (.string c) W) ∧ Hid (c.data.toList = l1 ++ l2) :=
  ⟨tx (l1 ++ l2), fun W => run_add_tx a b l1 l2 ha.out hb.out h W, Lib.hid (tx_data _)⟩
theorem hid_data (a : ByteArray) : Hid (a.data.toList = a.data.toList) := Lib.hid rfl
theorem hid_tx (l : List UInt8) : Hid ((tx l).data.toList = l) := Lib.hid (tx_data l)
theorem hid_blank : Hid ((⟨#[32]⟩ : ByteArray).data.toList = [32]) := Lib.hid rfl
theorem itoa_len21 (n : Int) (h : I64 n) : (Lib.itoa n).length ≤ 21 := Lib.itoa_length_le n h.1 h.2
theorem name_len {l : List UInt8} (h : isName l = true) : l.length ≤ 10 := by
  cases l with
  | nil => simp
  | cons c r => simp [isName] at h; simp; omega
/-- the table of the powers of ten -/
def PowOk (w : World) : Prop := Lib.TabIs Tryz.prog w "internal/strconv.uint64pow10" .u64 Lib.pow10Tab
theorem PowOk.below {w w' : World} (h : PowOk w) (hb : Below w.heap.size w w') : PowOk w' := tabIs_below h hb
theorem FormatInt_any (n : Int) (w : World) (h : I64 n) (hP : PowOk w) : Calls Tryz.prog 116 #[.int .i64 n, .int .i64 10] w fun e w' => e = .returned (.string (tx (Lib.itoa n))) ∧ Below w.heap.size w w' :=
  (Any.strconv_FormatInt_10 Tryz.laysFmt n h.1 h.2 w hP).mono fun e w' ⟨he, k, os, hw⟩ => ⟨he, by rw [hw]; exact below_grow_drew w k os⟩
theorem Decimal_any (n : Int) (w : World) (h : I64 n) (hP : PowOk w) : Calls Tryz.prog 75 #[.int .i64 n] w fun e w' => e = .returned (.string (tx (Lib.itoa n))) ∧ Below w.heap.size w w' := by
  go_enter Tryz.func75, Tryz.ntmps75
  go_wp2_with (refine (FormatInt_any n _ h hP).mono ?_; rintro e w1 ⟨rfl, hb1⟩)
  go_ret
  exact ⟨rfl, hb1⟩
end Go.Proofs.YtpnfhienffekoaaGreatDoor
