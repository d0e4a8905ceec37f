/- Contracts of the functions that hold two lists of stars against one another. -/
import Derived.Test.YtpnfhienffekoaaGreatDoorSta
import Derived.Laws.StructEq
namespace Go.Proofs.YtpnfhienffekoaaGreatDoor
set_option linter.unusedVariables false
set_option linter.unusedSimpArgs false
open Go.RowKit
/-- are two stars equal -/
def sameSta (x y : Sta) : Bool := (x.id.toList == y.id.toList) && ((x.ri == y.ri) && ((x.de == y.de) && ((x.ma == y.ma) && (x.co == y.co))))
/-- are the first n stars equal -/
def sameUpto (l m : List Sta) (n : Nat) : Bool := (List.range n).all fun i => match l[i]?, m[i]? with
  | some x, some y => sameSta x y
  | _, _ => true
def sameStas (l m : List Sta) : Bool := decide (l.length = m.length) && sameUpto l m l.length
theorem sameUpto_succ {l m : List Sta} {k : Nat} {x y : Sta} (hx : l[k]? = some x) (hy : m[k]? = some y) : sameUpto l m (k + 1) = (sameUpto l m k && sameSta x y) := by
  rw [sameUpto, List.range_succ, List.all_append]; simp [sameUpto, hx, hy]
theorem sameStas_len {l m : List Sta} (h : l.length ≠ m.length) : sameStas l m = false := by simp [sameStas, h]
theorem sameStas_no {l m : List Sta} {k : Nat} {x y : Sta} (hx : l[k]? = some x) (hy : m[k]? = some y) (h : sameSta x y = false) : sameStas l m = false := by
  have hk : k < l.length := (List.getElem?_eq_some_iff.1 hx).1
  have : sameUpto l m l.length = false := by
    rw [sameUpto, List.all_eq_false]; exact ⟨k, List.mem_range.2 hk, by simp [hx, hy, h]⟩
  simp [sameStas, this]
theorem sameStas_yes {l m : List Sta} (h : l.length = m.length) (hk : sameUpto l m l.length = true) : sameStas l m = true := by rw [sameStas, hk, h]; simp
theorem run_neq_sta (x y : Sta) (W : World) : (binOp .neq 46 (.agg #[.string x.id, .int .i64 x.ri, .int .i64 x.de, .int .i64 x.ma, .int .i64 x.co]) (.agg #[.string y.id, .int .i64 y.ri, .int .i64 y.de, .int .i64 y.ma, .int .i64 y.co])).run Tryz.prog W = .ok (.bool (!sameSta x y)) W := by
  rw [run_neq_struct, run_equalIn_agg _ _ _ _ _ (by kernel_rfl) (by kernel_rfl)]
  have hf : (Tryz.prog.fieldsOf 46).toList.map (fun f => (f.name, f.type, f.offset)) = [("Id", 9, 0), ("Right", 2, 1), ("Declination", 2, 2), ("Magnitude", 2, 3), ("Colour", 2, 4)] := by kernel_rfl
  have a0 : ∀ W, (isAgg 9).run Tryz.prog W = .ok false W := fun _ => by kernel_rfl
  have a1 : ∀ W, (isAgg 2).run Tryz.prog W = .ok false W := fun _ => by kernel_rfl
  generalize (Tryz.prog.fieldsOf 46).toList = fs at hf
  have hlen : fs.length = 5 := by have := congrArg List.length hf; simpa using this
  match fs, hlen, hf with
  | [f0, f1, f2, f3, f4], _, hf =>
    simp only [List.map_cons, List.map_nil, List.cons.injEq, Prod.mk.injEq, and_true] at hf
    obtain ⟨⟨n0, t0, o0⟩, ⟨n1, t1, o1⟩, ⟨n2, t2, o2⟩, ⟨n3, t3, o3⟩, ⟨n4, t4, o4⟩⟩ := hf
    simp only [Op.eqFields, n0, n1, n2, n3, n4, t0, t1, t2, t3, t4, o0, o1, o2, o3, o4, part, a0, a1, Sem.run_bind, Result.andThen_ok, Sem.run_ite]
    simp [run_equalIn_int _ _ _ _ _ _ _ Tryz.underlying2, run_equalIn_string _ _ _ _ _ Tryz.underlying9, sameSta]
    by_cases e0 : x.id.toList = y.id.toList <;> by_cases e1 : x.ri = y.ri <;> by_cases e2 : x.de = y.de <;> by_cases e3 : x.ma = y.ma <;> by_cases e4 : x.co = y.co <;> simp [e0, e1, e2, e3, e4]
set_option maxHeartbeats 1000000 in
theorem l05Same_any (A A' : Option Addr) (n n' c c' : Nat) (l m : List Sta) (w : World) (hl : l.length = n) (hm : m.length = n') (hn : n ≤ 9223372036854775807) (hn' : n' ≤ 9223372036854775807) (hS : Stars w A l) (hS' : Stars w A' m) :
    Calls Tryz.prog 76 #[.slice A n c, .slice A' n' c'] w fun e w' => e = .returned (.bool (sameStas l m)) ∧ Below w.heap.size w w' := by
  have HL := Lib.hid hl; clear hl
  have HM := Lib.hid hm; clear hm
  by_cases hnn : n = n'
  · subst hnn
    go_enter Tryz.func76, Tryz.ntmps76
    go_wp2_with (fail)
    go_loopw [5] (fun i wr => ∃ k : Nat, k ≤ n ∧ i = .int .i64 k ∧ sameUpto l m k = true ∧ Below w.heap.size w wr) (fun i _ => n - (intOf i).toNat)
    case atStart => exact ⟨0, by omega, rfl, rfl, Below.refl _ _⟩
    case round =>
      obtain ⟨k, hk, rfl, hok, hb⟩ := hrel
      have HOK := Lib.hid hok; clear hok
      by_cases hlt : k < n
      · obtain ⟨x, hx⟩ := at_lt (l := l) (k := k) (by have := HL.out; omega)
        obtain ⟨y, hy⟩ := at_lt (l := m) (k := k) (by have := HM.out; omega)
        obtain ⟨b, o, rfl, hc⟩ := hS.below hb (by have := HL.out; omega)
        obtain ⟨b', o', rfl, hc'⟩ := hS'.below hb (by have := HM.out; omega)
        have l0 := (hc k x hx).lt
        have l0' := (hc' k y hy).lt
        obtain ⟨c0, c1, c2, c3, c4⟩ := hc k x hx
        obtain ⟨d0, d1, d2, d3, d4⟩ := hc' k y hy
        have HX := Lib.hid hx
        have HY := Lib.hid hy
        have HQ := run_neq_sta x y
        clear hx hy hc hc' hS hS'
        cases hs : sameSta x y with
        | false =>
          rw [hs] at HQ
          have HS := Lib.hid hs; clear hs
          go_wp2_with (fail)
          (refine later_intro_wp ?_; intro y)
          (refine wp_region_later (by kernel_rfl) (by kernel_rfl) ?_; (repeat (first | go_big_quiet_step ((fail)) | quiet_step ((fail)))); refine wpQuiet_nil ?_; rintro _ ⟨y, rfl⟩)
          go_wp2_with (fail)
          go_ret
          exact ⟨ret_bool (by rw [sameStas_no HX.out HY.out HS.out]), below_later hb _⟩
        | true =>
          rw [hs] at HQ
          have HS := Lib.hid hs; clear hs
          go_wp2_with (fail)
          (refine later_intro_wp ?_; intro y)
          (refine wp_region_later (by kernel_rfl) (by kernel_rfl) ?_; (repeat (first | go_big_quiet_step ((fail)) | quiet_step ((fail)))); refine wpQuiet_nil ?_; rintro _ ⟨y, rfl⟩)
          go_wp2_with (fail)
          go_roundw
          case rel => exact ⟨k + 1, by omega, by go_num, by rw [sameUpto_succ HX.out HY.out, HOK.out, HS.out]; rfl, below_later hb _⟩
          case measure => simp [intOf]; omega
      · go_wp2
        go_ret
        exact ⟨ret_bool (by rw [sameStas_yes (by rw [HL.out, HM.out]) (by have := HOK.out; rw [show k = l.length by have := HL.out; omega] at this; exact this)]), hb⟩
  · have hne : ¬ (n : Int) = (n' : Int) := by omega
    go_enter Tryz.func76, Tryz.ntmps76
    go_wp2
    go_ret
    exact ⟨ret_bool (by rw [sameStas_len (by rw [HL.out, HM.out]; exact hnn)]), Below.refl _ _⟩
set_option maxHeartbeats 400000 in
theorem sSameStars_any (A A' : Option Addr) (n n' c c' : Nat) (l m : List Sta) (w : World) (hl : l.length = n) (hm : m.length = n') (hn : n ≤ 9223372036854775807) (hn' : n' ≤ 9223372036854775807) (hS : Stars w A l) (hS' : Stars w A' m) :
    Calls Tryz.prog 26 #[.slice A n c, .slice A' n' c'] w fun e w' => e = .returned (.bool (sameStas l m)) ∧ Below w.heap.size w w' := by
  go_enter Tryz.func26, Tryz.ntmps26
  go_wp2_with (refine (l05Same_any A A' n n' c c' l m _ hl hm hn hn' hS hS').mono ?_; rintro e w' ⟨rfl, hb⟩)
  go_ret
  exact ⟨rfl, hb⟩
end Go.Proofs.YtpnfhienffekoaaGreatDoor
