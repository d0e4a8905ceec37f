/- Contracts of the functions that divide a line and read a number. -/
import Derived.Test.YtpnfhienffekoaaGreatDoorPlainWord
import Derived.Test.YtpnfhienffekoaaGreatDoorStrs
import Derived.Test.YtpnfhienffekoaaGreatDoorDec
namespace Go.Proofs.YtpnfhienffekoaaGreatDoor
set_option linter.unusedVariables false
set_option linter.unusedSimpArgs false
open Go.RowKit
theorem extract_tx (s : ByteArray) (f k : Nat) : s.extract f k = tx ((s.data.toList.drop f).take (k - f)) := tx_eq (Lib.extract_data s f k)
theorem extract_tx_end (s : ByteArray) (f : Nat) : s.extract f s.size = tx (s.data.toList.drop f) := by
  rw [extract_tx]
  congr 1
  exact List.take_of_length_le (by rw [List.length_drop, len_data]; omega)
theorem byte_at (s : ByteArray) (k : Nat) (h : k < s.size) : s.data.toList[k]? = some s[k] := by
  rw [List.getElem?_eq_getElem (by rw [len_data]; exact h)]
  rfl
theorem digB_isD (c : UInt8) : digB c = isD c := by
  rw [Bool.eq_iff_iff]; simp [digB, isD]; omega
theorem map_snoc_tx (P : List (List UInt8)) (x : List UInt8) : (P ++ [x]).map tx = P.map tx ++ [tx x] := by simp
theorem hid_map (P : List (List UInt8)) {y : ByteArray} {x : List UInt8} (h : y = tx x) : P.map tx ++ [y] = (P ++ [x]).map tx := by rw [h, map_snoc_tx]
end Go.Proofs.YtpnfhienffekoaaGreatDoor
