/- Removing undoes adding, the nearest star is the nearest, all stars are within half a circle, the brightest come first, and a star is read back from its text: for all arguments. No condition. -/
import Derived.Test.YtpnfhienffekoaaGreatDoorPlainCat
import Derived.Test.YtpnfhienffekoaaGreatDoorR8Has
import Derived.Test.YtpnfhienffekoaaGreatDoorStarT
import Derived.Test.YtpnfhienffekoaaGreatDoorReadS
import Derived.Test.YtpnfhienffekoaaGreatDoorLaidR
import Derived.Test.YtpnfhienffekoaaGreatDoorTied
import Derived.Test.YtpnfhienffekoaaGreatDoorChecked
import Derived.Test.YtpnfhienffekoaaGreatDoorRows
import Derived.OpenVars
import Derived.RowKit
import Derived.Deep.DeepCutAuto
namespace Go.Proofs.YtpnfhienffekoaaGreatDoor
set_option linter.unusedVariables false
set_option linter.unusedSimpArgs false
open Go.RowKit
theorem cell_keptC {w w' : World} {b o : Nat} {v : Value} (h : w.cell? ⟨b, o, none⟩ = some v) (hb : Below w.heap.size w w') : w'.cell? ⟨b, o, none⟩ = some v := (hb.cell (p := ⟨b, o, none⟩) (World.block_lt_of_cell? w _ h)).trans h
theorem Blk.fiveC {w : World} {g : Nat} {t : TypeId} {v0 v1 v2 v3 v4 : Value} (h : Blk w g t [v0, v1, v2, v3, v4]) : w.cell? ⟨g, 0, none⟩ = some v0 ∧ w.cell? ⟨g, 1, none⟩ = some v1 ∧ w.cell? ⟨g, 2, none⟩ = some v2 ∧ w.cell? ⟨g, 3, none⟩ = some v3 ∧ w.cell? ⟨g, 4, none⟩ = some v4 :=
  ⟨by rw [h.cell]; rfl, by rw [h.cell]; rfl, by rw [h.cell]; rfl, by rw [h.cell]; rfl, by rw [h.cell]; rfl⟩
theorem starO_len {l : List UInt8} {r d m c : Int} (h : vStar l r d m c = true) : (starO l r d m c).length ≤ 1048576 := by
  obtain ⟨h0, h1, h2, h3, h4⟩ := vStar_parts h
  have a := isName_len l h0
  have small : ∀ n : Int, -1000000 < n → n < 1000000 → (Lib.itoa n).length ≤ 7 := fun n h1 h2 => by
    have key : ∀ u : Nat, u < 1000000 → (Lib.decDigits u).length ≤ 6 := fun u hu => by
      have e : Lib.decDigits u = Lib.decDigits u := rfl
      by_cases h10 : u < 1000
      · have := decDigits_len3 h10; omega
      · have h := decDigits_big (u := u) (by omega)
        have h' := decDigits_big (u := u / 10) (by omega)
        have h'' := decDigits_big (u := u / 10 / 10) (by omega)
        rw [h, h', h'', List.length_append, List.length_append, List.length_append]
        have := decDigits_len3 (r := u / 10 / 10 / 10) (by omega)
        simp only [List.length_cons, List.length_nil]
        omega
    unfold Lib.itoa
    split
    · have := key n.natAbs (by omega); simp only [List.length_cons]; omega
    · have := key n.toNat (by omega); omega
  have b1 := small r (by omega) (by omega)
  have b2 := small d (by omega) (by omega)
  have b3 := small m (by omega) (by omega)
  have b4 := small c (by omega) (by omega)
  rw [starO_yes h]
  simp only [List.length_append, List.length_cons]
  omega
theorem star_back {l : List UInt8} {r d m c : Int} (h : vStar l r d m c = true) : readStarR (starO l r d m c) = some (l, [r, d, m, c]) := by
  rw [starO, if_pos h]
  exact (readStarR_iff _ l [r, d, m, c]).2 ⟨rfl, h, rfl⟩
set_option maxRecDepth 100000 in
set_option maxHeartbeats 4000000 in
theorem FnCatalogue_walk (A0 : Option Addr) (n0 c0 : Nat) (l0 : List Int) (A1 : Option Addr) (n1 c1 : Nat) (l1 : List Int) (w : World) (hl0 : l0.length = n0) (hn0 : n0 ≤ 9223372036854775807) (hS0 : Bytes w A0 l0) (hi0 : ∀ x ∈ l0, ByteOk x) (hl1 : l1.length = n1) (hn1 : n1 ≤ 9223372036854775807) (hS1 : Bytes w A1 l1) (hi1 : ∀ x ∈ l1, ByteOk x) (hSin : SinOk w) (hTxt : TxtOk w) :
    Calls Tryz.prog 4 #[.slice A0 n0 c0, .slice A1 n1 c1] w fun e w' => e = .returned (.bool true) ∧ Below w.heap.size w w' := by
  have HI0 := Lib.hid hi0
  have HI1 := Lib.hid hi1
  clear hi0 hi1
  have CL := Lib.hid (r8Long_any A0 A1 n0 c0 n1 c1 w)
  cases hlong : (decide (1048576 < n0) || decide (1048576 < n1)) with
  | true =>
    rw [hlong] at CL
    clear hlong
    go_enter Tryz.func4, Tryz.ntmps4
    go_wp2_with (refine CL.out.mono ?_; rintro e w1 ⟨rfl, rfl⟩)
    go_ret
    exact ⟨rfl, Below.refl _ _⟩
  | false =>
    rw [hlong] at CL
    have hs0 : n0 ≤ 1048576 ∧ n1 ≤ 1048576 := by simp at hlong; omega
    clear hlong
    obtain ⟨hs0, hs1⟩ := hs0
    have HSin := Lib.hid hSin
    have HTxt := Lib.hid hTxt
    have HB1 := Lib.hid hS1
    have HL1 := Lib.hid hl1
    clear hSin hTxt hS1 hl1
    go_enter Tryz.func4, Tryz.ntmps4
    go_wp2_with (refine CL.out.mono ?_; rintro e w1 ⟨rfl, rfl⟩)
    refine (R8Stars_any A0 n0 c0 l0 w1 hl0 hs0 hS0 HI0.out).mono ?_
    rintro e w2 ⟨v, l, rfl, hO, hV, hl6, hFN, hb2⟩
    have hbW := hb2
    clear hb2 CL hS0 hl0
    go_wp2_with (fail)
    refine (r8Wide_any A1 n1 c1 0 l1 60000 w2 HL1.out hs1 (HB1.out.below hbW) HI1.out (by omega) (by omega)).mono ?_
    rintro e w3 ⟨a, rfl, ha, rfl⟩
    have ha' : a < 60000 := by omega
    go_wp2_with (fail)
    refine (r8Wide_any A1 n1 c1 2 l1 60000 w3 HL1.out hs1 (HB1.out.below hbW) HI1.out (by omega) (by omega)).mono ?_
    rintro e w4 ⟨b, rfl, hb, rfl⟩
    have hb' : b < 60000 := by omega
    go_wp2_with (fail)
    refine (r8At_any A1 n1 c1 4 l1 200 w4 HL1.out hs1 (HB1.out.below hbW) HI1.out (by omega) (by omega)).mono ?_
    rintro e w5 ⟨g, rfl, hg, _, rfl⟩
    have hg' : g < 200 := by omega
    clear ha hb hg
    have hok := new_ok (a := (a : Int)) (b := (b : Int)) (m := (g : Int)) (by omega) (by omega) (by omega)
    obtain ⟨m, hadd, hdrop, hvm, hlm⟩ := add_drop (x := ⟨newId, 6 * (a : Int), 3 * (b : Int) - 90000, (g : Int), 0⟩) hV hok (new_none hFN) (by omega)
    have hvs : vStar newId.data.toList (6 * (a : Int)) (3 * (b : Int) - 90000) (g : Int) 0 = true := hok
    have hsame : sameSta ⟨newId, 6 * (a : Int), 3 * (b : Int) - 90000, (g : Int), 0⟩ ⟨newId, 6 * (a : Int), 3 * (b : Int) - 90000, (g : Int), 0⟩ = true := by simp [sameSta]
    have hneq := run_neq_sta ⟨newId, 6 * (a : Int), 3 * (b : Int) - 90000, (g : Int), 0⟩ ⟨newId, 6 * (a : Int), 3 * (b : Int) - 90000, (g : Int), 0⟩
    rw [hsame] at hneq
    dsimp only at hneq hdrop
    have CT := Lib.hid (fun W hW => StarText_any newId (6 * (a : Int)) (3 * (b : Int) - 90000) (g : Int) 0 W ⟨by omega, by omega⟩ ⟨by omega, by omega⟩ ⟨by omega, by omega⟩ ⟨by omega, by omega⟩ hW)
    have CR : Hid (∀ W, TxtOk W → Calls Tryz.prog 24 #[.string (tx (starO newId.data.toList (6 * (a : Int)) (3 * (b : Int) - 90000) (g : Int) 0))] W fun e w' => e = .returned (.tuple #[.agg #[.string newId, .int .i64 (6 * (a : Int)), .int .i64 (3 * (b : Int) - 90000), .int .i64 (g : Int), .int .i64 0], .bool true]) ∧ Below W.heap.size W w') := Lib.hid (fun W hW => by
      have h := ReadStar_any (tx (starO newId.data.toList (6 * (a : Int)) (3 * (b : Int) - 90000) (g : Int) 0)) W (by rw [tx_size]; exact starO_len hvs) hW
      rw [tx_data, star_back hvs] at h
      unfold StarRet starOf at h
      dsimp only at h
      rw [tx_self] at h
      exact h)
    obtain ⟨A, c, rfl, hA, hc1, hc2, hc3, _⟩ := hO.form2
    have CA := Lib.hid (fun W hA => AddStar_any A l.length c l ⟨newId, 6 * (a : Int), 3 * (b : Int) - 90000, (g : Int), 0⟩ W rfl (by omega) hc1 hc3 hA)
    rw [hadd] at CA
    dsimp only at CA
    clear hok hvs hsame hadd hV hFN hc1 hc2 hc3 hO
    generalize tx (starO newId.data.toList (6 * (a : Int)) (3 * (b : Int) - 90000) (g : Int) 0) = txt at *
    have hnew : newId = ⟨#[110, 101, 119]⟩ := rfl
    rw [hnew] at CT CR CA hneq hdrop
    have HDR := Lib.hid hdrop
    have HVM := Lib.hid hvm
    have HLM := Lib.hid hlm
    clear hdrop hvm hlm hnew
    go_wp2_with (fail)
    refine calls_named ?_
    intro W6 e6
    have hX : Blk W6 w5.heap.size 46 [.string ⟨#[110, 101, 119]⟩, .int .i64 (6 * (a : Int)), .int .i64 (3 * (b : Int) - 90000), .int .i64 (g : Int), .int .i64 0] := by rw [e6]; exact Blk.new w5 _ _
    have hb6 : Below w5.heap.size w5 W6 := by rw [e6]; exact below_alloc (Below.refl _ _) _
    replace hA := hA.below hb6
    replace hbW := below_step hbW hb6
    clear e6 hb6
    generalize w5.heap.size = q at *
    refine (CA.out _ hA).mono ?_
    rintro e w7 ⟨v7, rfl, hM7, hb7⟩
    replace hX := hX.keep hb7
    replace hA := hA.below hb7
    replace hbW := below_step hbW hb7
    clear hb7
    obtain ⟨B, cB, rfl, hM, hcB1, _, _, _⟩ := hM7.form2
    have CD := Lib.hid (fun W hM => DropStar_any B m.length cB m ⟨#[110, 101, 119]⟩ W rfl (by have := HLM.out; omega) hcB1 hM)
    rw [HDR.out] at CD
    dsimp only at CD
    clear HDR CA hcB1 hM7
    go_wp2_with (fail)
    refine (CD.out _ hM).mono ?_
    rintro e w8 ⟨v8, rfl, hO8, hb8⟩
    replace hX := hX.keep hb8
    replace hA := hA.below hb8
    replace hM := hM.below hb8
    replace hbW := below_step hbW hb8
    clear hb8 CD
    obtain ⟨D, cD, rfl, hD, _, _, _, _⟩ := hO8.form2
    clear hO8
    obtain ⟨x0, x1, x2, x3, x4⟩ := hX.fiveC
    have hgl := hX.lt
    go_wp2_with (fail)
    refine (CT.out _ (HTxt.out.pow.below hbW)).mono ?_
    rintro e w9 ⟨rfl, hb9⟩
    replace hX := hX.keep hb9
    replace hA := hA.below hb9
    replace hM := hM.below hb9
    replace hD := hD.below hb9
    replace hbW := below_step hbW hb9
    clear hb9 CT x0 x1 x2 x3 x4 hgl
    go_wp2_with (fail)
    refine (CR.out _ (HTxt.out.below hbW)).mono ?_
    rintro e w10 ⟨rfl, hb10⟩
    replace hX := hX.keep hb10
    replace hA := hA.below hb10
    replace hM := hM.below hb10
    replace hD := hD.below hb10
    replace hbW := below_step hbW hb10
    clear hb10 CR
    go_upto_region 8 with (fail)
    refine wp_named ?_
    intro W11 e11
    have hb11 : Below w10.heap.size w10 W11 := by rw [e11]; exact below_alloc (Below.refl _ _) _
    have hY : Blk W11 w10.heap.size 46 [.string ⟨#[110, 101, 119]⟩, .int .i64 (6 * (a : Int)), .int .i64 (3 * (b : Int) - 90000), .int .i64 (g : Int), .int .i64 0] := by rw [e11]; exact Blk.new w10 _ _
    replace hX := hX.keep hb11
    replace hA := hA.below hb11
    replace hM := hM.below hb11
    replace hD := hD.below hb11
    replace hbW := below_step hbW hb11
    clear e11 hb11
    generalize w10.heap.size = q2 at *
    have CSS := Lib.hid (sSameStars_any D A l.length l.length cD c l l W11 rfl rfl (by omega) (by omega) hD hA)
    rw [same_self] at CSS
    clear hD hA
    go_wp2_with (fail)
    refine CSS.out.mono ?_
    rintro e w12 ⟨rfl, hb12⟩
    replace hX := hX.keep hb12
    replace hY := hY.keep hb12
    replace hM := hM.below hb12
    replace hbW := below_step hbW hb12
    clear hb12 CSS
    obtain ⟨x0, x1, x2, x3, x4⟩ := hX.fiveC
    obtain ⟨y0, y1, y2, y3, y4⟩ := hY.fiveC
    have hgl := hX.lt
    have hgl2 := hY.lt
    go_wp2_with (fail)
    refine (r8Wide_any A1 n1 c1 5 l1 60000 w12 HL1.out hs1 (HB1.out.below hbW) HI1.out (by omega) (by omega)).mono ?_
    rintro e w13 ⟨r, rfl, hr, rfl⟩
    have hr' : r < 60000 := by omega
    clear hr x0 x1 x2 x3 x4 y0 y1 y2 y3 y4 hgl hgl2 hX hY hneq
    go_wp2_with (fail)
    refine (r8Wide_any A1 n1 c1 7 l1 60000 w13 HL1.out hs1 (HB1.out.below hbW) HI1.out (by omega) (by omega)).mono ?_
    rintro e w14 ⟨d, rfl, hd, rfl⟩
    have hd' : d < 60000 := by omega
    clear hd
    have hdir : vDir (6 * (r : Int)) (3 * (d : Int) - 90000) = true := by simp [vDir, inB]; omega
    obtain ⟨k, least, e1, hk, hl0, hl1, e2, e3, e4, e5, e6⟩ := cat_near HVM.out hdir (by have := HLM.out; omega)
    obtain ⟨f1, f2, f3⟩ := cat_order HVM.out
    have CN := Lib.hid (fun W hS hM => NearestStar_any B m.length cB m (6 * (r : Int)) (3 * (d : Int) - 90000) W hS rfl (by have := HLM.out; omega) hM)
    have CW := Lib.hid (fun rad W hS hM => StarsWithin_any B m.length cB m (6 * (r : Int)) (3 * (d : Int) - 90000) rad W hS rfl (by have := HLM.out; omega) hM)
    have CB := Lib.hid (fun W hM => BrightestFirst_any B m.length cB m W rfl (by have := HLM.out; omega) hM)
    rw [e1] at CN
    dsimp only at CN
    have CW1 := Lib.hid (CW.out least)
    have CW2 := Lib.hid (CW.out 180000)
    have CW3 := Lib.hid (CW.out (least - 1))
    rw [e2] at CW1
    rw [e4] at CW2
    rw [f1] at CB
    have HK := Lib.hid e3
    have HF := Lib.hid f3
    have HE := Lib.hid e6
    have hm24 : m.length ≤ 24 := vStars_len HVM.out
    have hm0 : 1 ≤ m.length := by have := HLM.out; omega
    have h24 := wiO_len m (6 * (r : Int)) (3 * (d : Int) - 90000) least
    have H5 := Lib.hid e5
    have H6 := Lib.hid f2
    clear e1 e2 e3 e4 e5 e6 f1 f2 f3 hdir CW HLM
    generalize (wiO m (6 * (r : Int)) (3 * (d : Int) - 90000) least).1 = N1 at *
    generalize (wiO m (6 * (r : Int)) (3 * (d : Int) - 90000) 180000).1 = N2 at *
    generalize (brO m).1 = N3 at *
    go_wp2_with (fail)
    refine (CN.out _ (HSin.out.of_below hbW) hM).mono ?_
    rintro e w15 ⟨rfl, hb15⟩
    replace hM := hM.below hb15
    replace hbW := below_step hbW hb15
    clear hb15 CN
    go_wp2_with (fail)
    refine (CW1.out _ (HSin.out.of_below hbW) hM).mono ?_
    rintro e w16 ⟨v16, rfl, hO16, hb16⟩
    replace hM := hM.below hb16
    replace hbW := below_step hbW hb16
    clear hb16 CW1
    obtain ⟨E1, cE1, rfl, hE1, _, _, _, _⟩ := hO16.form2
    clear hO16
    go_wp2_with (fail)
    refine (CW2.out _ (HSin.out.of_below hbW) hM).mono ?_
    rintro e w17 ⟨v17, rfl, hO17, hb17⟩
    replace hM := hM.below hb17
    replace hE1 := hE1.below hb17
    replace hbW := below_step hbW hb17
    clear hb17 CW2
    obtain ⟨E2, cE2, rfl, hE2, _, _, _, _⟩ := hO17.form2
    clear hO17 hE2
    go_wp2_with (fail)
    refine (CB.out _ hM).mono ?_
    rintro e w18 ⟨v18, rfl, hO18, hb18⟩
    replace hM := hM.below hb18
    replace hE1 := hE1.below hb18
    replace hbW := below_step hbW hb18
    clear hb18 CB
    obtain ⟨E3, cE3, rfl, hE3, hcE3, hcE4, _, _⟩ := hO18.form2
    clear hO18
    have CY := Lib.hid (r8Has_yes E1 N1.length cE1 N1 (k : Int) w18 rfl (by omega) hE1 HK.out)
    obtain ⟨M, hMM⟩ : ∃ M, m.length = M := ⟨_, rfl⟩
    rw [H5.out]
    rw [H6.out] at hcE3 ⊢
    rw [hMM] at hk hcE3 hm24 hm0 ⊢
    have HMM := Lib.hid hMM
    have q1 : decide ((k : Int) < 0) = false := decide_eq_false (by omega)
    have q2 : decide ((M : Int) ≤ (k : Int)) = false := decide_eq_false (by omega)
    have q3 : decide (M ≤ k) = false := decide_eq_false (by omega)
    have q4 : decide (least < 0) = false := decide_eq_false (by omega)
    have q5 : decide (180000 < least) = false := decide_eq_false (by omega)
    have HLS := Lib.hid (And.intro hl0 hl1)
    clear hE1 HK H5 hMM hk hl0 hl1
    go_wp2_with (fail)
    refine CY.out.mono ?_
    rintro e w19 ⟨rfl, rfl⟩
    go_wp2_with (fail)
    clear CY q1 q2 q3 q4 q5
    go_loopw [24] (fun s24 wr => ∃ j : Nat, j ≤ M ∧ s24 = .int .i64 (j : Int) ∧ Below w18.heap.size w18 wr) (fun s24 _ => M - (intOf s24).toNat)
    case atStart => exact ⟨0, by omega, rfl, Below.refl _ _⟩
    case round =>
      obtain ⟨j, hj, rfl, hb⟩ := hrel
      by_cases hlt : j < M
      · obtain ⟨x, hx⟩ := at_lt (l := N3) (k := j) (by have := H6.out; have := HMM.out; omega)
        obtain ⟨i, st, rfl, hst, hds, hpr⟩ := HF.out j x hx
        have hiM : i < M := by have := (List.getElem?_eq_some_iff.1 hst).1; have := HMM.out; omega
        obtain ⟨eb, eo, rfl, hc⟩ := (hE3.below hb) (by have := H6.out; have := HMM.out; omega)
        have k0 := hc j _ hx
        obtain ⟨sb, so, rfl, hcs⟩ := (hM.below hb) (by have := HMM.out; omega)
        obtain ⟨_, _, _, s3, _⟩ := hcs i st hst
        have el0 := World.block_lt_of_cell? wr _ k0
        have sl0 := World.block_lt_of_cell? wr _ s3
        dsimp only at el0 sl0
        have HIT : Hid (∀ W, Below wr.heap.size wr W → Calls Tryz.prog 30 #[.slice (some ⟨eb, eo, none⟩) j cE3, .int .i64 (i : Int)] W fun e w' => e = .returned (.bool false) ∧ W = w') := Lib.hid (fun W hW => by
          have hI2 : Ints wr (some ⟨eb, eo, none⟩) (N3.take j) := fun _ => ⟨eb, eo, rfl, fun u y hy => by
            rw [List.getElem?_take] at hy
            split at hy
            · exact hc u y hy
            · cases hy⟩
          refine r8Has_no _ j cE3 (N3.take j) (i : Int) W (by rw [List.length_take, H6.out, HMM.out]; omega) (by omega) (hI2.below hW) (fun y hy => ?_)
          obtain ⟨u, hu⟩ := List.getElem?_of_mem hy
          rw [List.getElem?_take] at hu
          split at hu
          · next huj => exact hds u y huj hu
          · cases hu)
        have hi0 : decide ((i : Int) < 0) = false := decide_eq_false (by omega)
        have hi1 : decide ((M : Int) ≤ (i : Int)) = false := decide_eq_false (by omega)
        have hkc : j ≤ cE3 := by omega
        rcases j with _ | jj
        · clear hc hcs hst hds hpr hx
          simp only [Int.natCast_zero]
          simp only [Nat.add_zero] at k0
          go_wp2_with (fail)
          (refine later_intro_wp ?_; intro y)
          (refine wp_region_later (by kernel_rfl) (by kernel_rfl) ?_; (repeat (first | go_big_quiet_step ((go_at_call 30; exact later_same (HIT.out _ (Later.below _)))) | quiet_step ((go_at_call 30; exact later_same (HIT.out _ (Later.below _)))))); refine wpQuiet_nil ?_; rintro _ ⟨y, rfl⟩)
          go_wp2_with (fail)
          go_roundw
          case rel => exact ⟨1, by omega, by go_num, below_later hb _⟩
          case measure => simp [intOf]; omega
        · obtain ⟨z, hz⟩ := at_lt (l := N3) (k := jj) (by have := H6.out; have := HMM.out; omega)
          obtain ⟨i2, st2, rfl, hst2, hle⟩ := hpr z (by omega) (by rw [Nat.add_sub_cancel]; exact hz)
          have k1 := hc jj _ hz
          obtain ⟨_, _, _, r3, _⟩ := hcs i2 st2 hst2
          have hiM2 : i2 < M := by have := (List.getElem?_eq_some_iff.1 hst2).1; have := HMM.out; omega
          have g1 : decide (st.ma < st2.ma) = false := decide_eq_false (by omega)
          have g2 : (0 : Int) < (jj : Int) + 1 := by omega
          have g3 : (jj : Int) + 1 - 1 = jj := by omega
          have g4 : (0 : Int) ≤ (jj : Int) + 1 := by omega
          have g5 : (jj : Int) + 1 ≤ (cE3 : Int) := by omega
          have hc1 : ((jj + 1 : Nat) : Int) = (jj : Int) + 1 := by omega
          rw [hc1]
          clear hc hcs hst hst2 hds hpr hx hz hle hc1
          go_wp2_with (fail)
          (refine later_intro_wp ?_; intro y)
          (refine wp_region_later (by kernel_rfl) (by kernel_rfl) ?_; (repeat (first | go_big_quiet_step ((go_at_call 30; exact later_same (HIT.out _ (Later.below _)))) | quiet_step ((go_at_call 30; exact later_same (HIT.out _ (Later.below _)))))); refine wpQuiet_nil ?_; rintro _ ⟨y, rfl⟩)
          go_wp2_with (fail)
          go_roundw
          case rel => exact ⟨jj + 1 + 1, by omega, by go_num, below_later hb _⟩
          case measure => simp [intOf]; omega
      · obtain rfl : j = M := by omega
        obtain ⟨hl0, hl1⟩ := HLS.out
        by_cases hz : least = 0
        · subst hz
          go_wp2_with (fail)
          go_ret
          exact ⟨rfl, below_step hbW hb⟩
        · have hne : (least == 0) = false := by rw [beq_eq_false_iff_ne]; exact hz
          have he := HE.out hz
          rw [he, HMM.out] at CW3
          dsimp only at CW3
          clear HE he hz
          go_wp2_with (fail)
          refine (CW3.out _ (HSin.out.of_below (below_step hbW hb)) (hM.below hb)).mono ?_
          rintro e w20 ⟨v20, rfl, hO20, hb20⟩
          obtain ⟨A2, c2, rfl, _⟩ := hO20.form
          go_wp2_with (fail)
          go_ret
          exact ⟨rfl, below_step (below_step hbW hb) hb20⟩
namespace FnCatalogue
open Go.ChangeShapes Go.WideShapes Go.ChangeAt Go.RowKit Go.Joins
open Go.ChangeMaps (open_string shut_string)
theorem own : ownKnob Tryz.prog.godebug = none := by kernel_rfl
theorem laidOut : laidOutB Tryz.prog = true := by kernel_rfl
theorem gTab : Tryz.prog.globalNamed "loop.example/g00955/impl.sines" = some 0 := by kernel_rfl
theorem gTabType : (Tryz.prog.globals[0]?).map (·.type) = some 133 := by kernel_rfl
theorem cellsT : Tryz.prog.cellsOf 133 = 91 := by kernel_rfl
theorem cells1 : Tryz.prog.cellsOf 2 = 1 := by kernel_rfl
theorem table {W : World} {a b c d e f : String × DataW Unit} {r : List (String × DataW Unit)} (h : laidMet Tryz.prog (a :: b :: c :: d :: e :: f :: ("loop.example/g00955/impl.sines", Lib.tabData .i64 sinTab) :: r) W) : Lib.TabIs Tryz.prog W "loop.example/g00955/impl.sines" .i64 sinTab :=
  Lib.tabIs_of_head gTab gTabType Tryz.underlying133 Tryz.underlying2 cells1 cellsT h.tail.tail.tail.tail.tail.tail
theorem sinOk {W : World} {a b c d e f : String × DataW Unit} {r : List (String × DataW Unit)} (h : laidMet Tryz.prog (a :: b :: c :: d :: e :: f :: ("loop.example/g00955/impl.sines", Lib.tabData .i64 sinTab) :: r) W) : SinOk W :=
  ⟨lt_of_cell ((table h).cell gTab 0 (by show 0 < 91; omega)), fun k hk => (table h).cell gTab k (by show k < 91; exact hk)⟩
noncomputable def laidWorld (os : Os) : World :=
  { World.doorLaid Tryz.prog 400 os with heap := (((World.doorLaid Tryz.prog 400 os).heap.modify 6 fun
      | .cells _ t frozen => .cells (Go.Pinned.utf8FirstZ.map fun (n : Nat) => Value.int .u8 (n : Int)).toArray t frozen
      | o => o).modify 0 fun
      | .cells _ t frozen => .cells (sinTab.map (Value.int .i64)).toArray t frozen
      | o => o) }
theorem laid_met (os : Os) : laidMet Tryz.prog Rows.fnCatalogueRow.laid ((laidWorld os).forCall (fun _ _ => 0) ⟨#[], #[.slice none 0 0, .slice none 0 0], []⟩).memory :=
  laidMet_of_run' 8 (by kernel_rfl) (by kernel_rfl)
theorem reads (os : Os) {H : Type} (enc : TypeId × Value → H) : ∃ places, DataW.whole enc Tryz.prog ((laidWorld os).forCall (fun _ _ => 0) ⟨#[], #[.slice none 0 0, .slice none 0 0], []⟩).memory Tryz.f4.params.toList Rows.fnCatalogueSpec.vars false (#[.slice none 0 0, .slice none 0 0] : Array Value).toList 8 = some ([.nil, .nil], [Rows.laid_loop_example_g00955_impl_sines], places) :=
  ⟨((DataW.whole enc Tryz.prog ((laidWorld os).forCall (fun _ _ => 0) ⟨#[], #[.slice none 0 0, .slice none 0 0], []⟩).memory Tryz.f4.params.toList Rows.fnCatalogueSpec.vars false (#[.slice none 0 0, .slice none 0 0] : Array Value).toList 8).map (fun x => x.2.2)).getD [], by kernel_rfl⟩
set_option maxRecDepth 100000 in
set_option maxHeartbeats 2000000 in
theorem lifted (os : Os) (started : os.Started) (H : Type) (enc : TypeId × Value → H) (F : Stop.Interp) :
    ReturnsInHanded {} Tryz.checked os 4 .any ((OpenSpec.ofChange Rows.fnCatalogueSpec).preRow enc Tryz.prog Tryz.f4 Rows.fnCatalogueRow.domain false Rows.fnCatalogueRow.laid) (((OpenSpec.ofChange Rows.fnCatalogueSpec).at F).post enc Tryz.prog Tryz.f4 false true false false) := by
  obtain ⟨places, hx⟩ := reads os enc
  refine returnsInHanded_of_row (C := Tryz.checked) (s := OpenSpec.ofChange Rows.fnCatalogueSpec) own started (by kernel_rfl) Tryz.func4
    (witness_row_atRef (enc := enc) (C := Tryz.checked) false (laidWorld os) #[.slice none 0 0, .slice none 0 0] rfl (by kernel_rfl) (by kernel_rfl) (by kernel_rfl)
      (OpenSpec.preRow_of_cond 8 hx (by kernel_rfl) (fun k hk => by cases hk) (by kernel_rfl) (laid_met os))) ?_
  intro W base args ds gs before hval0 hW _ _ _ hL hsh _
  have hval : ∀ (j : Nat) t v, Tryz.f4.params[j]? = some t → args[j]? = some v → Value.okWide Tryz.prog W .any base t v := hval0
  have hW' := hW
  obtain ⟨p, q, hA0, hV, rfl, hfz, hnd⟩ := hW
  have hA : DataW.TrodAll enc Tryz.prog W 0 (fun _ => true) true Tryz.f4.params.toList args.toList ds p := hA0
  rw [Tryz.params4] at hA hval
  obtain ⟨v0, vs0, d0, ds0, p0, q0, hargs, rfl, rfl, h0, r0⟩ := trodAll_cons hA
  obtain ⟨v1, vs1, d1, ds1, p1, q1, rfl, rfl, rfl, h1, r1⟩ := trodAll_cons r0
  obtain ⟨rfl, rfl, rfl⟩ := trodAll_nil r1
  obtain rfl : args = #[v0, v1] := by cases args; simp_all
  have hVk := hV
  obtain ⟨_, _, _, _, dg, _, rfl, _, _, _, _, _⟩ := trodVars_one hV
  have k0 := h0
  have lt0 : ∀ x ∈ p0, x.block < W.heap.size := by obtain ⟨m, hm⟩ := k0; exact DataW.trod_lt m _ _ _ hm
  have k1 := h1
  have lt1 : ∀ x ∈ p1, x.block < W.heap.size := by obtain ⟨m, hm⟩ := k1; exact DataW.trod_lt m _ _ _ hm
  obtain ⟨A0, n0, c0, l0, rfl, hl0, hn0, hc0, hx0, hS0, hi0⟩ := open_bytes Tryz.underlying22 Tryz.underlying5 (by kernel_rfl) (hval 0 22 v0 rfl rfl) h0
  obtain ⟨A1, n1, c1, l1, rfl, hl1, hn1, hc1, hx1, hS1, hi1⟩ := open_bytes Tryz.underlying22 Tryz.underlying5 (by kernel_rfl) (hval 1 22 v1 rfl rfl) h1
  clear hA0 hval0
  refine (FnCatalogue_walk A0 n0 c0 l0 A1 n1 c1 l1 W hl0 hn0 hS0 hi0 hl1 hn1 hS1 hi1 (sinOk hL) (txtOk_of hL hsh)).mono fun e W' ⟨he, bel⟩ => ?_
  subst he
  exact ⟨_, rfl, _, _, _, [], _, _, hW', trodAll_mk1 (shut_bool Tryz.underlying4 _), (trodAll_cons_mk (Below.trod laidOut (by kernel_rfl) (of_decide_eq_true (by kernel_rfl)) k0 bel lt0) (trodAll_cons_mk (Below.trod laidOut (by kernel_rfl) (of_decide_eq_true (by kernel_rfl)) k1 bel lt1) trodAll_mk0)), Below.trodVars laidOut bel (by kernel_rfl) hVk, bel.frame _, fun h => by cases h⟩
theorem said : Rows.FnCatalogueSaid :=
  OpenClaim.holds_of_cond 4 Tryz.f4 rfl rfl rfl rfl rfl rfl rfl ⟨rfl, rfl, rfl, rfl, rfl⟩ rfl rfl rfl rfl rfl (by kernel_rfl) Tryz.func4 (by kernel_rfl)
    (of_decide_eq_true (by kernel_rfl)) (by unfold Func.isWrapper; first | (rw [if_pos (by decide +kernel)]; kernel_rfl) | (rw [if_neg (by decide +kernel)]; exact ⟨rfl, rfl⟩))
    (fun os started H enc _ F => by rw [OpenClaim.pre_eq_preRow]; exact lifted os started H enc F)
theorem plain (f : FuncId) (fn : Func) (hf : Tryz.pinned.checked.prog.funcNamed "loop.example/g00955/laws.FnCatalogue" = some f) (hfn : Tryz.pinned.checked.prog.funcs[f]? = some fn) :
    true = Tryz.pinned.checked.prog.looks [] ∧ ∀ (j : Nat) t, fn.params[j]? = some t → Tryz.pinned.checked.prog.wantsStandIn t = false := by
  obtain rfl : f = 4 := Option.some.inj ((show Tryz.prog.funcNamed "loop.example/g00955/laws.FnCatalogue" = some 4 by kernel_rfl).symm.trans hf) |>.symm
  obtain rfl : fn = Tryz.f4 := (Option.some.inj (Tryz.func4.symm.trans hfn)).symm
  refine ⟨by kernel_rfl, fun j t ht => ?_⟩
  rw [Tryz.params4] at ht
  have hm : t ∈ [22, 22] := by simpa using Array.mem_of_getElem? ht
  have hall : ([22, 22].all fun u => !Tryz.prog.wantsStandIn u) = true := by kernel_rfl
  exact (show Tryz.prog.wantsStandIn t = false by simpa using List.all_eq_true.1 hall t hm)
/-- the statement: the card -/
theorem proved : Rows.FnCatalogueCardSaid :=
  Claim7.holds_tied_plain_at .later [] _ _ _ _ said (fun _ h => by cases h) (by kernel_rfl) (fun _ h => by cases h) fnCatalogue_row_tie rfl ⟨rfl, rfl⟩ (by kernel_rfl) rfl plain (by kernel_rfl)
end FnCatalogue
end Go.Proofs.YtpnfhienffekoaaGreatDoor
