/- Bytes, Src, Among, in one text. -/
import Derived.Test.YtpnfhienffekoaaGreatDoorNums
import Derived.Test.YtpnfhienffekoaaGreatDoorMgM
import Derived.Laws.BitsLemmas
import Derived.Deep.RegionHeld3
import Derived.Deep.DeepCutAuto
namespace Go.Proofs.YtpnfhienffekoaaGreatDoor
set_option linter.unusedVariables false
set_option linter.unusedSimpArgs false
open Go.RowKit
/-- A list of bytes in memory. -/
def Bytes (w : World) (A : Option Addr) (l : List Int) : Prop := 0 < l.length → ∃ b o, A = some ⟨b, o, none⟩ ∧ ∀ k x, l[k]? = some x → w.cell? ⟨b, o + k, none⟩ = some (.int .u8 x)
def ByteOk (x : Int) : Prop := 0 ≤ x ∧ x ≤ 255
/-- a byte of memory lies in a block of the world -/
theorem Bytes.lt {w : World} {b o : Nat} {l : List Int} (h : Bytes w (some ⟨b, o, none⟩) l) (hl : 0 < l.length) : b < w.heap.size := by
  obtain ⟨b', o', e, hc⟩ := h hl
  obtain ⟨rfl, rfl⟩ : b = b' ∧ o = o' := by injection e with e; injection e with e1 e2; exact ⟨e1, e2⟩
  obtain ⟨x, hx⟩ := at_lt (l := l) (k := 0) hl
  exact World.block_lt_of_cell? w _ (hc 0 x hx)
theorem Bytes.keep {w w' : World} {A : Option Addr} {l : List Int} (h : Bytes w A l) (hk : ∀ b, b < w.heap.size → 0 < l.length → (∃ o, A = some ⟨b, o, none⟩) → w'.heap[b]? = w.heap[b]?) : Bytes w' A l := fun hl => by
  obtain ⟨b, o, e, hc⟩ := h hl
  obtain ⟨x0, hx0⟩ := at_lt (l := l) (k := 0) hl
  have hb := World.block_lt_of_cell? w _ (hc 0 x0 hx0)
  refine ⟨b, o, e, fun k x hx => ?_⟩
  rw [← hc k x hx]
  simp only [World.cell?]
  rw [hk b hb hl ⟨o, e⟩]
theorem Bytes.below {w w' : World} {A : Option Addr} {l : List Int} (h : Bytes w A l) (hb : Below w.heap.size w w') : Bytes w' A l := h.keep fun b hl _ _ => hb.block b hl
section
open Go.ChangeShapes Go.WideShapes Go.Deep
variable {H : Type} {enc : TypeId × Value → H} {P : Program} {w : World} {base : Nat} {spare : Nat → Bool} {held : Bool}
/-- a list of bytes that came in -/
theorem open_bytes {r : Reach} {b0 : Nat} {t e : TypeId} {v : Value} {d : DataW H} {p : List MemPlace} (ht : P.underlying t = some (.slice e)) (he : P.underlying e = some (.int .u8)) (hC : P.cellsOf e = 1)
    (hv : Value.okWide P w r b0 t v) (h : DataW.Trod enc P w base spare held t v d p) :
    ∃ (A : Option Addr) (n c : Nat) (l : List Int), v = .slice A n c ∧ l.length = n ∧ n ≤ 9223372036854775807 ∧ n ≤ c ∧ c ≤ 9223372036854775807 ∧ Bytes w A l ∧ ∀ x ∈ l, ByteOk x := by
  obtain ⟨A, n, c, rfl⟩ := okWide_slice ht hv
  obtain ⟨fuel, hf⟩ := h
  have hf' : DataW.trod enc P w base spare held fuel t [.slice A n c] = some (d, p) := hf
  rcases open_ints ht he hC hf' with ⟨hcs, _⟩ | ⟨a, len, cap, zs, hcs, _, hl, hm, hz, _, hcell, hwz⟩
  · simp only [List.cons.injEq, Value.slice.injEq, and_true] at hcs
    obtain ⟨rfl, rfl, rfl⟩ := hcs
    exact ⟨none, 0, 0, [], rfl, rfl, by omega, by omega, by omega, fun h => absurd h (by simp), fun x hx => by cases hx⟩
  · simp only [List.cons.injEq, Value.slice.injEq, and_true] at hcs
    obtain ⟨rfl, rfl, rfl⟩ := hcs
    have hln : n ≤ zs.length := by rw [hz]; split <;> omega
    refine ⟨some a, n, c, zs.take n, rfl, by simp; omega, by unfold maxLen at hm; omega, hl, by unfold maxLen at hm; omega, fun hp => ?_, fun x hx => ?_⟩
    · have hn : 0 < n := by simp at hp; omega
      have hsp := spot_none (a := a) (hcell 0 (by omega))
      refine ⟨a.block, a.off, congrArg some (addr_of_spot hsp), fun k x hx => ?_⟩
      rw [List.getElem?_take] at hx
      split at hx
      · have := hcell k (by omega)
        rw [addr_of_spot hsp, addr_add, List.getD_eq_getElem?_getD, hx] at this
        exact this
      · cases hx
    · have := hwz x (List.mem_of_mem_take hx)
      have e1 : IntKind.u8.min = 0 := by decide
      have e2 : IntKind.u8.max = 255 := by decide
      simp [Lit.wf, e1, e2] at this
      exact this
end
end Go.Proofs.YtpnfhienffekoaaGreatDoor
namespace Go.Proofs.YtpnfhienffekoaaGreatDoor
set_option linter.unusedVariables false
set_option linter.unusedSimpArgs false
open Go.RowKit
theorem wrap_u64r (x : Int) : 0 ≤ IntKind.u64.wrap x ∧ IntKind.u64.wrap x < 18446744073709551616 := by
  have e : (2 : Int) ^ IntKind.u64.bits = 18446744073709551616 := by decide
  have h : IntKind.u64.wrap x = x % 18446744073709551616 := by simp [IntKind.wrap, IntKind.signed, e]
  rw [h]; omega
theorem wrap_u64s {x : Int} (h0 : 0 ≤ x) (h1 : x < 18446744073709551616) : IntKind.u64.wrap x = x := by
  have e : (2 : Int) ^ IntKind.u64.bits = 18446744073709551616 := by decide
  have h : IntKind.u64.wrap x = x % 18446744073709551616 := by simp [IntKind.wrap, IntKind.signed, e]
  rw [h]; omega
theorem mask255 (x : Int) (h0 : 0 ≤ x) (h1 : x < 18446744073709551616) : bits .and .u64 x 255 = x % 256 := by
  have e : (2 : Int) ^ 64 = 18446744073709551616 := by decide
  have h := bits_mask .u64 64 (by decide) (fun n h0 h1 => by rw [e] at h1; exact wrap_u64s h0 h1) 8 (by decide) x h0 (by rw [e]; exact h1)
  simpa using h
theorem grown_trans0 {a b c : World} {row : Option Nat} (h : a.grownBy b row) (k : b.grownBy c row) : a.grownBy c row :=
  ⟨k.os.trans h.os, k.tape.trans h.tape, k.output.trans h.output, Nat.le_trans h.size k.size, fun q hq hr => (k.block q (Nat.lt_of_lt_of_le hq h.size) hr).trans (h.block q hq hr)⟩
theorem last_byte {sd : Int} (h0 : 0 ≤ sd) (h1 : sd < 18446744073709551616) : ∃ x : Nat, x ≤ 255 ∧ wrap64 (bits .and .u64 (sd / 1099511627776) 255) = (x : Int) := by
  rw [mask255 _ (by omega) (by omega)]
  refine ⟨(sd / 1099511627776 % 256).toNat, by omega, ?_⟩
  unfold wrap64; omega
/-- the source of choices, read no farther than so -/
structure SrcAt (w : World) (g B at_ : Nat) (A : Option Addr) (n c : Nat) (bs : List Int) (seed : Int) : Prop where
  blk : Blk w g 129 [.slice A n c, .int .i64 (at_ : Int), .int .u64 seed]
  len : bs.length = n
  small : n ≤ 1048576
  bytes : Bytes w A bs
  ok : ∀ x ∈ bs, ByteOk x
  lo : 0 ≤ seed
  hi : seed < 18446744073709551616
  apart : 0 < bs.length → ∀ b o, A = some ⟨b, o, none⟩ → b ≠ g
  gB : g < B
  aB : 0 < bs.length → ∀ b o, A = some ⟨b, o, none⟩ → b < B
def Src (w : World) (g a B : Nat) : Prop := ∃ at_ A n c bs seed, at_ ≤ a ∧ SrcAt w g B at_ A n c bs seed
theorem Src.mono {w : World} {g a b B : Nat} (h : Src w g a B) (hab : a ≤ b) : Src w g b B := by
  obtain ⟨at_, A, n, c, bs, seed, h1, h2⟩ := h
  exact ⟨at_, A, n, c, bs, seed, by omega, h2⟩
theorem Src.keep {w w' : World} {g a B : Nat} (h : Src w g a B) (hb : Below w.heap.size w w') : Src w' g a B := by
  obtain ⟨at_, A, n, c, bs, seed, h1, h2⟩ := h
  exact ⟨at_, A, n, c, bs, seed, h1, h2.blk.keep hb, h2.len, h2.small, h2.bytes.below hb, h2.ok, h2.lo, h2.hi, h2.apart, h2.gB, h2.aB⟩
theorem Src.lt {w : World} {g a B : Nat} (h : Src w g a B) : g < w.heap.size := by
  obtain ⟨at_, A, n, c, bs, seed, h1, h2⟩ := h
  exact h2.blk.lt
theorem Src.set {w : World} {g a B q : Nat} (h : Src w g a B) (hq : B ≤ q) (i : Nat) (u : Value) : Src (w.setCell ⟨q, i, none⟩ u) g a B := by
  obtain ⟨at_, A, n, c, bs, seed, h1, h2⟩ := h
  refine ⟨at_, A, n, c, bs, seed, h1, h2.blk.far (by show g ≠ q; have := h2.gB; omega) _, h2.len, h2.small, h2.bytes.keep fun b hb hpos ⟨o, e⟩ => ?_, h2.ok, h2.lo, h2.hi, h2.apart, h2.gB, h2.aB⟩
  have := h2.aB hpos b o e
  exact Below.heap_setCell _ _ _ _ (by show b ≠ q; omega)
theorem grown_far {a w : World} {row : Option Nat} (h : a.grownBy w row) {q : Nat} (hq : a.heap.size ≤ q) (i : Nat) (u : Value) : a.grownBy (w.setCell ⟨q, i, none⟩ u) row :=
  ⟨h.os, h.tape, h.output, by have := h.size; simpa using this, fun k hk hr => (Below.heap_setCell _ _ _ _ (by show k ≠ q; omega)).trans (h.block k hk hr)⟩
set_option maxHeartbeats 1000000 in
theorem next_any (g a B : Nat) (w : World) (h : Src w g a B) (ha : a ≤ 1000000000) :
    Calls Tryz.prog 133 #[.pointer (some ⟨g, 0, none⟩)] w fun e w' => ∃ x : Nat, e = .returned (.int .i64 (x : Int)) ∧ x ≤ 255 ∧ Src w' g (a + 1) B ∧ w.grownBy w' (some g) := by
  obtain ⟨at_, A, n, c, bs, seed, hat, hS⟩ := h
  have hsm := hS.small
  have hlen := hS.len
  have hlo := hS.lo
  have hhi := hS.hi
  have x0 : w.cell? ⟨g, 0, none⟩ = some (.slice A n c) := by rw [hS.blk.cell]; rfl
  have x1 : w.cell? ⟨g, 1, none⟩ = some (.int .i64 (at_ : Int)) := by rw [hS.blk.cell]; rfl
  have x2 : w.cell? ⟨g, 2, none⟩ = some (.int .u64 seed) := by rw [hS.blk.cell]; rfl
  have hg := hS.blk.lt
  have f1 : w.frozen? ⟨g, 1, none⟩ = false := hS.blk.frozen 1
  have f2 : w.frozen? ⟨g, 2, none⟩ = false := hS.blk.frozen 2
  have HB : Hid (∀ (y : Later w) (s W : _) , 0 ≤ s → s < 18446744073709551616 → W = (y.w.setCell ⟨g, 1, none⟩ (.int .i64 ((at_ : Int) + 1))).setCell ⟨g, 2, none⟩ (.int .u64 s) → SrcAt W g B (at_ + 1) A n c bs s ∧ w.grownBy W (some g)) := Lib.hid (by
    rintro y s W h0 h1 rfl
    refine ⟨⟨?_, hS.len, hS.small, ?_, hS.ok, h0, h1, hS.apart, hS.gB, hS.aB⟩, only_set (only_set (grown_of_below y.below _) _ _) _ _⟩
    · exact (((hS.blk.keep y.below).set_ 1 _).set_ 2 _)
    · refine (hS.bytes.below y.below).keep fun b hb hpos ⟨o, e⟩ => ?_
      have hne := hS.apart hpos b o e
      rw [Below.heap_setCell _ _ _ _ (by show b ≠ g; exact hne), Below.heap_setCell _ _ _ _ (by show b ≠ g; exact hne)])
  by_cases hlt : at_ < n
  · obtain ⟨x, hx⟩ := at_lt (l := bs) (k := at_) (by omega)
    obtain ⟨hx0, hx1⟩ := hS.ok x (List.mem_of_getElem? hx)
    obtain ⟨b, o, rfl, hc⟩ := hS.bytes (by omega)
    have c0 := hc at_ x hx
    have hbl := World.block_lt_of_cell? w _ c0
    dsimp only at hbl
    clear hS hc hx hlen
    obtain ⟨x, rfl⟩ : ∃ x' : Nat, x = x' := ⟨x.toNat, by omega⟩
    go_enter Tryz.func133, Tryz.ntmps133
    go_wp2_with (fail)
    (refine later_intro_wp ?_; intro y)
    (refine wp_region_later (by kernel_rfl) (by kernel_rfl) ?_; (repeat (first | go_big_quiet_step ((fail)) | quiet_step ((fail)))); refine wpQuiet_nil ?_; rintro _ ⟨y, rfl⟩)
    go_wp2_with (fail)
    (refine wp_region_later (by kernel_rfl) (by kernel_rfl) ?_; (repeat (first | go_big_quiet_step ((fail)) | quiet_step ((fail)))); refine wpQuiet_nil ?_; rintro _ ⟨y, rfl⟩)
    go_wp2_with (fail)
    refine wp_named ?_
    intro W5 e5
    obtain ⟨hS5, hg5⟩ := HB.out _ _ W5 (wrap_u64r _).1 (wrap_u64r _).2 e5
    clear e5 x0 x1 x2 f1 f2 HB
    have x0 : W5.cell? ⟨g, 0, none⟩ = some (.slice (some ⟨b, o, none⟩) n c) := by rw [hS5.blk.cell]; rfl
    have x1 : W5.cell? ⟨g, 1, none⟩ = some (.int .i64 ((at_ : Int) + 1)) := by rw [hS5.blk.cell]; rfl
    have hlg := hS5.blk.lt
    have HS5 := Lib.hid hS5
    clear hS5 hg
    (refine later_intro_wp ?_; intro y)
    (refine wp_region_later (by kernel_rfl) (by kernel_rfl) ?_; (repeat (first | go_big_quiet_step ((fail)) | quiet_step ((fail)))); refine wpQuiet_nil ?_; rintro _ ⟨y, rfl⟩)
    go_wp2_with (fail)
    go_ret
    exact ⟨x, rfl, by omega, Src.keep ⟨at_ + 1, _, _, _, _, _, by omega, HS5.out⟩ (Later.below _), grown_trans0 hg5 (grown_of_below (Later.below _) _)⟩
  · have hle : n ≤ at_ := by omega
    have hln : ¬ at_ < n := hlt
    clear hS hlen
    go_enter Tryz.func133, Tryz.ntmps133
    go_wp2_with (fail)
    (refine later_intro_wp ?_; intro y)
    (refine wp_region_later (by kernel_rfl) (by kernel_rfl) ?_; (repeat (first | go_big_quiet_step ((fail)) | quiet_step ((fail)))); refine wpQuiet_nil ?_; rintro _ ⟨y, rfl⟩)
    go_wp2_with (fail)
    refine wp_named ?_
    intro W5 e5
    obtain ⟨hS5, hg5⟩ := HB.out _ _ W5 (wrap_u64r _).1 (wrap_u64r _).2 e5
    obtain ⟨sd, hS5⟩ : ∃ sd, SrcAt W5 g B (at_ + 1) A n c bs sd := ⟨_, hS5⟩
    clear e5 x0 x1 x2 f1 f2 HB
    have x0 : W5.cell? ⟨g, 0, none⟩ = some (.slice A n c) := by rw [hS5.blk.cell]; rfl
    have x1 : W5.cell? ⟨g, 1, none⟩ = some (.int .i64 ((at_ : Int) + 1)) := by rw [hS5.blk.cell]; rfl
    have x2 : W5.cell? ⟨g, 2, none⟩ = some (.int .u64 sd) := by rw [hS5.blk.cell]; rfl
    have hlg := hS5.blk.lt
    have hs0 := hS5.lo
    have hs1 := hS5.hi
    have HS5 := Lib.hid hS5
    clear hS5 hg
    (refine later_intro_wp ?_; intro y)
    (refine wp_region_later (by kernel_rfl) (by kernel_rfl) ?_; (repeat (first | go_big_quiet_step ((fail)) | quiet_step ((fail)))); refine wpQuiet_nil ?_; rintro _ ⟨y, rfl⟩)
    go_wp2_with (fail)
    go_ret
    obtain ⟨x, hx, hx2⟩ := last_byte hs0 hs1
    exact ⟨x, by rw [← hx2]; rfl, hx, Src.keep ⟨at_ + 1, _, _, _, _, _, by omega, HS5.out⟩ (Later.below _), grown_trans0 hg5 (grown_of_below (Later.below _) _)⟩
set_option maxHeartbeats 1000000 in
theorem pick_any (g a B : Nat) (n : Int) (w : World) (h : Src w g a B) (ha : a ≤ 999999990) (hn : n ≤ 1000000000) :
    Calls Tryz.prog 100 #[.pointer (some ⟨g, 0, none⟩), .int .i64 n] w fun e w' => ∃ x : Nat, e = .returned (.int .i64 (x : Int)) ∧ ((x : Int) < n ∨ x = 0) ∧ Src w' g (a + 2) B ∧ w.grownBy w' (some g) := by
  by_cases h1 : n ≤ 1
  · go_enter Tryz.func100, Tryz.ntmps100
    go_wp2_with (fail)
    go_ret
    exact ⟨0, rfl, .inr rfl, h.mono (by omega), grown_of_below (Below.refl _ _) _⟩
  · by_cases h2 : 200 < n
    · go_enter Tryz.func100, Tryz.ntmps100
      go_wp2_with (fail)
      refine (next_any g a B w h (by omega)).mono ?_
      rintro e w2 ⟨x, rfl, hx, hS2, hg2⟩
      go_wp2_with (fail)
      refine (next_any g (a + 1) B w2 hS2 (by omega)).mono ?_
      rintro e w3 ⟨y, rfl, hy, hS3, hg3⟩
      go_wp2_with (fail)
      go_ret
      exact ⟨(((x : Int) * 256 + y) % n).toNat, by rw [Int.toNat_of_nonneg (Int.emod_nonneg _ (by omega))]; rfl, .inl (by have := Int.emod_lt_of_pos ((x : Int) * 256 + y) (show 0 < n by omega); have := Int.emod_nonneg ((x : Int) * 256 + y) (show n ≠ 0 by omega); omega), hS3, grown_trans0 hg2 hg3⟩
    · go_enter Tryz.func100, Tryz.ntmps100
      go_wp2_with (fail)
      refine (next_any g a B w h (by omega)).mono ?_
      rintro e w2 ⟨x, rfl, hx, hS2, hg2⟩
      go_wp2_with (fail)
      go_ret
      exact ⟨((x : Int) % n).toNat, by rw [Int.toNat_of_nonneg (Int.emod_nonneg _ (by omega))]; rfl, .inl (by have := Int.emod_lt_of_pos (x : Int) (show 0 < n by omega); have := Int.emod_nonneg (x : Int) (show n ≠ 0 by omega); omega), hS2.mono (by omega), hg2⟩
set_option maxHeartbeats 1000000 in
theorem text_any (g a B b m c : Nat) (ss : List ByteArray) (w : World) (h : Src w g a B) (ha : a ≤ 999999990) (hl : ss.length = m) (h0 : 0 < m) (hm : m ≤ 65536) (hb : b ≠ g) (hc : ∀ k s, ss[k]? = some s → w.cell? ⟨b, k, none⟩ = some (.string s)) :
    Calls Tryz.prog 98 #[.pointer (some ⟨g, 0, none⟩), .slice (some ⟨b, 0, none⟩) m c] w fun e w' => ∃ s : ByteArray, e = .returned (.string s) ∧ s ∈ ss ∧ Src w' g (a + 2) B ∧ w.grownBy w' (some g) := by
  obtain ⟨s0, hs0⟩ := at_lt (l := ss) (k := 0) (by omega)
  have hbl := World.block_lt_of_cell? w _ (hc 0 s0 hs0)
  dsimp only at hbl
  clear hs0
  go_enter Tryz.func98, Tryz.ntmps98
  go_wp2_with (fail)
  refine (pick_any g a B (m : Int) w h ha (by omega)).mono ?_
  rintro e w2 ⟨x, rfl, hx, hS2, hg2⟩
  have hxm : x < m := by omega
  obtain ⟨s, hs⟩ := at_lt (l := ss) (k := x) (by omega)
  have c0 : w2.cell? ⟨b, x, none⟩ = some (.string s) := by
    rw [← hc x s hs]
    simp only [World.cell?]
    rw [hg2.block b hbl (by intro e; injection e with e; exact hb e)]
  clear hx
  go_wp2_with (fail)
  go_ret
  exact ⟨s, rfl, List.mem_of_getElem? hs, hS2, hg2⟩
set_option maxHeartbeats 1000000 in
theorem l00From_any (A : Option Addr) (n c : Nat) (bs : List Int) (w : World) (hl : bs.length = n) (hn : n ≤ 1048576) (hA : Bytes w A bs) (hok : ∀ x ∈ bs, ByteOk x) :
    Calls Tryz.prog 44 #[.slice A n c] w fun e w' => e = .returned (.pointer (some ⟨w.heap.size, 0, none⟩)) ∧ Src w' w.heap.size 0 (w.heap.size + 1) ∧ Below w.heap.size w w' := by
  go_enter Tryz.func44, Tryz.ntmps44
  go_wp2_with (fail)
  go_ret
  refine ⟨rfl, ⟨0, A, n, c, bs, 0, Nat.le_refl _, Blk.new _ _ _, hl, hn, hA.below (below_alloc (Below.refl _ _) _), hok, by omega, by omega, fun hp b o e => by subst e; have := hA.lt hp; omega, by omega, fun hp b o e => by subst e; have := hA.lt hp; omega⟩, below_alloc (Below.refl _ _) _⟩
end Go.Proofs.YtpnfhienffekoaaGreatDoor
namespace Go.Proofs.YtpnfhienffekoaaGreatDoor
set_option linter.unusedVariables false
set_option linter.unusedSimpArgs false
open Go.RowKit
theorem Src.grown {w w' : World} {g a B : Nat} {row : Option Nat} (h : Src w g a B) (hg : w.grownBy w' row) (hr : ∀ k, row = some k → B ≤ k) : Src w' g a B := by
  obtain ⟨at_, A, n, c, bs, seed, h1, h2⟩ := h
  refine ⟨at_, A, n, c, bs, seed, h1, h2.blk.grown hg (fun p hp => by have := hr p hp; have := h2.gB; omega), h2.len, h2.small, h2.bytes.keep fun b hb hpos ⟨o, e⟩ => ?_, h2.ok, h2.lo, h2.hi, h2.apart, h2.gB, h2.aB⟩
  have := h2.aB hpos b o e
  exact hg.block b hb (fun e => by have := hr b e.symm; omega)
theorem grown_own {a w w' : World} {row r2 : Option Nat} (h : a.grownBy w row) (hg : w.grownBy w' r2) (hr : ∀ k, r2 = some k → a.heap.size ≤ k) : a.grownBy w' row :=
  ⟨hg.os.trans h.os, hg.tape.trans h.tape, hg.output.trans h.output, Nat.le_trans h.size hg.size, fun k hk hne => (hg.block k (Nat.lt_of_lt_of_le hk h.size) (fun e => by have := hr k e.symm; omega)).trans (h.block k hk hne)⟩
theorem heldV_drew {a : World} {b o : Nat} {v : Value} (h : a.cell? ⟨b, o, none⟩ = some v) : a.drew.cell? ⟨b, o, none⟩ = some v := h
theorem heldV_alloc {a : World} (o' : Obj) {b o : Nat} {v : Value} (h : a.cell? ⟨b, o, none⟩ = some v) : (a.alloc o').cell? ⟨b, o, none⟩ = some v := (World.cell?_alloc_lt _ _ _ (World.block_lt_of_cell? a _ h)).trans h
theorem heldV_set {a : World} {q i : Nat} {u : Value} {b o : Nat} {v : Value} (hne : q ≠ b) (h : a.cell? ⟨b, o, none⟩ = some v) : (a.setCell ⟨q, i, none⟩ u).cell? ⟨b, o, none⟩ = some v := (World.cell?_setCell_far a ⟨q, i, none⟩ ⟨b, o, none⟩ u hne).trans h
set_option maxHeartbeats 1000000 in
theorem one_any (g a B : Nat) (n : Int) (w : World) (h : Src w g a B) (ha : a ≤ 999999990) (hn : n ≤ 1000000000) :
    Calls Tryz.prog 101 #[.pointer (some ⟨g, 0, none⟩), .int .i64 n] w fun e w' => ∃ b : Bool, e = .returned (.bool b) ∧ Src w' g (a + 2) B ∧ w.grownBy w' (some g) := by
  go_enter Tryz.func101, Tryz.ntmps101
  go_wp2_with (fail)
  refine (pick_any g a B n w h ha hn).mono ?_
  rintro e w2 ⟨x, rfl, hx, hS2, hg2⟩
  go_wp2_with (fail)
  go_ret
  exact ⟨_, rfl, hS2, hg2⟩
set_option maxHeartbeats 1000000 in
theorem among_any (g a B b m c : Nat) (xs : List Int) (w : World) (h : Src w g a B) (ha : a ≤ 999999990) (hl : xs.length = m) (h0 : 0 < m) (hm : m ≤ 65536) (hb : b ≠ g) (hN : Blk w b 2 (numCells xs)) :
    Calls Tryz.prog 99 #[.pointer (some ⟨g, 0, none⟩), .slice (some ⟨b, 0, none⟩) m c] w fun e w' => ∃ y : Int, e = .returned (.int .i64 y) ∧ y ∈ xs ∧ Src w' g (a + 2) B ∧ w.grownBy w' (some g) := by
  go_enter Tryz.func99, Tryz.ntmps99
  go_wp2_with (fail)
  refine (pick_any g a B (m : Int) w h ha (by omega)).mono ?_
  rintro e w2 ⟨x, rfl, hx, hS2, hg2⟩
  have hxm : x < m := by omega
  obtain ⟨y, hy⟩ := at_lt (l := xs) (k := x) (by omega)
  have hN2 := hN.grown hg2 (fun p hp => by injection hp with hp; omega)
  have c0 : w2.cell? ⟨b, x, none⟩ = some (.int .i64 y) := by rw [hN2.cell]; exact numCells_at hy
  have hbl := hN2.lt
  clear hx hN hN2
  go_wp2_with (fail)
  go_ret
  exact ⟨y, rfl, List.mem_of_getElem? hy, hS2, hg2⟩
end Go.Proofs.YtpnfhienffekoaaGreatDoor
