/- Plain lemmas: the bytes of a text that is put together of numbers. -/
import Derived.Test.YtodgioleaegpfaaDoorLibSp
namespace Go.Proofs.YtodgioleaegpfaaDoor.Pure
open Go.RowKit Go.Proofs.YtodgioleaegpfaaDoor.P Go.Proofs.YtodgioleaegpfaaDoorW.PrintWords Go.Proofs.YtodgioleaegpfaaDoorW.PrintLast Go.Proofs.YtodgioleaegpfaaDoorW.PrintMore
set_option linter.unusedVariables false
set_option linter.unusedSimpArgs false
theorem str_app (x y : List Int) : strOfNums (x ++ y) = strOfNums x ++ strOfNums y := by
  apply ext_list; simp [strOfNums_data, ByteArray.data_append]
theorem bt_str (L : List Int) (k : Nat) (c : Int) (hc : 0 ≤ c ∧ c ≤ 255) (h : L[k]? = some c) : bt (strOfNums L) (k : Int) = c := by
  obtain ⟨hk, e⟩ := List.getElem?_eq_some_iff.1 h
  have hk2 : k < (strOfNums L).data.toList.length := by rw [len_eq, strOfNums_size]; exact hk
  rw [bt_list _ k hk2]
  simp only [strOfNums_data, List.getElem_map, e]
  rw [UInt8.toNat_ofNat']
  omega
end Go.Proofs.YtodgioleaegpfaaDoor.Pure
