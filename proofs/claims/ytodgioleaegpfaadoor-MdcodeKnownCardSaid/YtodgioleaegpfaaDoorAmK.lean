/- The law MdcodeKnown (closed) is carried out by the abstract machine. Conditions: the world holds the number that strings.Index reads. -/
import Derived.Test.YtodgioleaegpfaaDoorAmT
import Derived.Test.YtodgioleaegpfaaDoorLibRn
import Derived.Test.YtodgioleaegpfaaDoorHandFn
namespace Go.Proofs.YtodgioleaegpfaaDoor.Am
open Go Go.RowKit Go.Proofs.YtodgioleaegpfaaDoor.P Go.Proofs.YtodgioleaegpfaaDoorW.PrintWords
set_option linter.unusedVariables false
def T8 : Tab :=
  [(3, ⟨.int .i64, 1, [.int .i64 0], true⟩),
   (4, ⟨.bool, 1, [.bool false], true⟩),
   (5, ⟨.int .u8, 1, [.int .u8 0], true⟩),
   (9, ⟨.str, 1, [.str ⟨#[]⟩], true⟩),
   (27, ⟨.slice 31, 1, [.nils], true⟩),
   (33, ⟨.slice 5, 1, [.nils], true⟩),
   (37, ⟨.struct [(0, 9), (1, 3), (2, 3), (3, 5), (4, 3)], 5, [.str ⟨#[]⟩, .int .i64 0, .int .i64 0, .int .u8 0, .int .i64 0], true⟩),
   (39, ⟨.slice 37, 1, [.nils], true⟩),
   (40, ⟨.slice 9, 1, [.nils], true⟩),
   (31, ⟨.struct [(0, 5), (1, 5), (2, 3), (3, 3)], 4, [.int .u8 0, .int .u8 0, .int .i64 0, .int .i64 0], true⟩)]
theorem T8_ok : TabOK Tryd.prog T8 := tabOK_of (by kernel_rfl)
theorem prog_ok8 : ProgOK Tryd.prog T8 := ⟨T8_ok, by kernel_rfl⟩
abbrev Row := ByteArray × Int × Int × Int × Int
def Row.res (r : Row) : AV := .tup [.int .u8 r.2.2.2.1, .int .i64 r.2.2.2.2]
def Row.cst (r : Row) : Cst := .call 9 [.str r.1, .int .i64 r.2.1, .int .i64 r.2.2.1] r.res
def kRead : List Row := [
  ((⟨#[92, 42, 10]⟩ : ByteArray), 0, 9, 90, 2),
  ((⟨#[92, 97, 10]⟩ : ByteArray), 0, 9, 0, 1),
  ((⟨#[92, 10]⟩ : ByteArray), 0, 9, 91, 1),
  ((⟨#[92]⟩ : ByteArray), 0, 9, 91, 1),
  ((⟨#[97, 92, 32, 98]⟩ : ByteArray), 1, 2, 0, 2),
  ((⟨#[92, 42]⟩ : ByteArray), 0, 1, 0, 1),
  ((⟨#[92, 13, 10]⟩ : ByteArray), 0, 9, 91, 1),
  ((⟨#[32, 32, 10]⟩ : ByteArray), 0, 9, 91, 2),
  ((⟨#[32, 10]⟩ : ByteArray), 0, 9, 0, 1),
  ((⟨#[32, 32]⟩ : ByteArray), 0, 9, 0, 1),
  ((⟨#[32, 32, 32, 13, 10]⟩ : ByteArray), 1, 9, 91, 3),
  ((⟨#[32, 32, 9, 10]⟩ : ByteArray), 0, 9, 0, 1),
  ((⟨#[32, 32, 97, 10]⟩ : ByteArray), 0, 2, 0, 1),
  ((⟨#[96, 96, 97, 96, 98, 96, 96]⟩ : ByteArray), 0, 99, 83, 7),
  ((⟨#[96, 96, 97, 96]⟩ : ByteArray), 0, 99, 0, 2),
  ((⟨#[96, 97, 96, 96, 32, 96]⟩ : ByteArray), 0, 99, 83, 6),
  ((⟨#[96, 97, 96]⟩ : ByteArray), 0, 2, 0, 1),
  ((⟨#[96, 96]⟩ : ByteArray), 0, 9, 0, 2),
  ((⟨#[96, 96, 96]⟩ : ByteArray), 1, 9, 0, 3),
  ((⟨#[96, 10, 96]⟩ : ByteArray), 0, 9, 0, 1),
  ((⟨#[96, 92, 96]⟩ : ByteArray), 0, 9, 83, 3),
  ((⟨#[60, 97, 98, 58, 99, 62]⟩ : ByteArray), 0, 9, 88, 6),
  ((⟨#[60, 97, 58, 99, 62]⟩ : ByteArray), 0, 9, 0, 1),
  ((⟨#[60, 97, 64, 98, 46, 99, 62]⟩ : ByteArray), 0, 9, 88, 7),
  ((⟨#[60, 97, 64, 45, 98, 62]⟩ : ByteArray), 0, 9, 0, 1),
  ((⟨#[60, 97, 32, 98, 58, 99, 62]⟩ : ByteArray), 0, 9, 0, 1),
  ((⟨#[60, 97, 98, 58, 62]⟩ : ByteArray), 0, 9, 88, 5),
  ((⟨#[60, 97, 98, 58, 99]⟩ : ByteArray), 0, 9, 0, 1),
  ((⟨#[60, 97, 98, 58, 99, 62]⟩ : ByteArray), 0, 5, 0, 1),
  ((⟨#[60, 49, 98, 58, 99, 62]⟩ : ByteArray), 0, 9, 0, 1),
  ((⟨#[60, 97, 43, 46, 45, 49, 58, 99, 62]⟩ : ByteArray), 0, 9, 88, 9),
  ((⟨#[60, 97, 98, 58, 99, 60, 100, 62]⟩ : ByteArray), 0, 9, 0, 1),
  ((⟨#[60, 97, 98, 58, 127, 62]⟩ : ByteArray), 0, 9, 0, 1),
  ((⟨#[60, 97, 98, 58, 128, 62]⟩ : ByteArray), 0, 9, 88, 6),
  ((⟨#[60, 64, 98, 62]⟩ : ByteArray), 0, 9, 0, 1),
  ((⟨#[60, 97, 64, 62]⟩ : ByteArray), 0, 9, 0, 1),
  ((⟨#[60, 97, 64, 98, 46, 46, 99, 62]⟩ : ByteArray), 0, 9, 0, 1),
  ((⟨#[60, 97, 64, 98, 45, 62]⟩ : ByteArray), 0, 9, 0, 1),
  ((⟨#[60, 96, 126, 64, 48, 62]⟩ : ByteArray), 0, 9, 88, 6),
  ((⟨#[60, 62]⟩ : ByteArray), 0, 9, 0, 1),
  ((⟨#[60, 97, 44, 98, 64, 99, 62]⟩ : ByteArray), 0, 9, 0, 1),
  ((⟨#[60, 97, 97, 97, 97, 97, 97, 97, 97, 97, 97, 97, 97, 97, 97, 97, 97, 97, 97, 97, 97, 97, 97, 97, 97, 97, 97, 97, 97, 97, 97, 97, 97, 58, 62]⟩ : ByteArray), 0, 99, 88, 35),
  ((⟨#[60, 97, 97, 97, 97, 97, 97, 97, 97, 97, 97, 97, 97, 97, 97, 97, 97, 97, 97, 97, 97, 97, 97, 97, 97, 97, 97, 97, 97, 97, 97, 97, 97, 97, 58, 62]⟩ : ByteArray), 0, 99, 0, 1),
  ((⟨#[60, 97, 64, 98, 98, 98, 98, 98, 98, 98, 98, 98, 98, 98, 98, 98, 98, 98, 98, 98, 98, 98, 98, 98, 98, 98, 98, 98, 98, 98, 98, 98, 98, 98, 98, 98, 98, 98, 98, 98, 98, 98, 98, 98, 98, 98, 98, 98, 98, 98, 98, 98, 98, 98, 98, 98, 98, 98, 98, 98, 98, 98, 98, 98, 98, 98, 62]⟩ : ByteArray), 0, 99, 88, 67),
  ((⟨#[60, 97, 64, 98, 98, 98, 98, 98, 98, 98, 98, 98, 98, 98, 98, 98, 98, 98, 98, 98, 98, 98, 98, 98, 98, 98, 98, 98, 98, 98, 98, 98, 98, 98, 98, 98, 98, 98, 98, 98, 98, 98, 98, 98, 98, 98, 98, 98, 98, 98, 98, 98, 98, 98, 98, 98, 98, 98, 98, 98, 98, 98, 98, 98, 98, 98, 98, 62]⟩ : ByteArray), 0, 99, 0, 1),
  ((⟨#[38, 97, 109, 112, 59]⟩ : ByteArray), 0, 9, 89, 5),
  ((⟨#[38, 35, 49, 50, 59]⟩ : ByteArray), 0, 9, 89, 5),
  ((⟨#[38, 35, 120, 65, 102, 59]⟩ : ByteArray), 0, 9, 89, 6),
  ((⟨#[38, 102, 111, 111, 59]⟩ : ByteArray), 0, 9, 0, 1),
  ((⟨#[38, 35, 49, 50, 51, 52, 53, 54, 55, 56, 59]⟩ : ByteArray), 0, 99, 0, 1),
  ((⟨#[38, 35, 49, 50, 51, 52, 53, 54, 55, 59]⟩ : ByteArray), 0, 99, 89, 10),
  ((⟨#[38, 35, 120, 49, 50, 51, 52, 53, 54, 55, 59]⟩ : ByteArray), 0, 99, 0, 1),
  ((⟨#[38, 35, 88, 49, 50, 51, 52, 53, 54, 59]⟩ : ByteArray), 0, 99, 89, 10),
  ((⟨#[38, 59]⟩ : ByteArray), 0, 9, 0, 1),
  ((⟨#[38, 35, 59]⟩ : ByteArray), 0, 9, 0, 1),
  ((⟨#[38, 35, 120, 59]⟩ : ByteArray), 0, 9, 0, 1),
  ((⟨#[38, 108, 116]⟩ : ByteArray), 0, 9, 0, 1),
  ((⟨#[38, 97, 109, 112, 32, 108, 116, 59]⟩ : ByteArray), 0, 9, 0, 1),
  ((⟨#[38, 65, 109, 112, 59]⟩ : ByteArray), 0, 9, 0, 1),
  ((⟨#[38, 35, 120, 103, 59]⟩ : ByteArray), 0, 9, 0, 1),
  ((⟨#[38, 104, 101, 108, 108, 105, 112, 59]⟩ : ByteArray), 0, 8, 89, 8),
  ((⟨#[38, 104, 101, 108, 108, 105, 112, 59]⟩ : ByteArray), 0, 7, 0, 1),
  ((⟨#[97]⟩ : ByteArray), 0, 9, 0, 1),
  ((⟨#[97]⟩ : ByteArray), 1, 9, 0, 0),
  ((⟨#[97]⟩ : ByteArray), -1, 9, 0, 0),
  ((⟨#[97]⟩ : ByteArray), 0, 0, 0, 0),
  ((⟨#[97]⟩ : ByteArray), 0, -5, 0, 0),
  ((⟨#[38, 97, 109, 112, 59]⟩ : ByteArray), 0, 99, 89, 5),
  ((⟨#[38, 97, 109, 112, 120, 59]⟩ : ByteArray), 0, 99, 0, 1),
  ((⟨#[38, 108, 116, 59]⟩ : ByteArray), 0, 99, 89, 4),
  ((⟨#[38, 108, 116, 120, 59]⟩ : ByteArray), 0, 99, 0, 1),
  ((⟨#[38, 103, 116, 59]⟩ : ByteArray), 0, 99, 89, 4),
  ((⟨#[38, 103, 116, 120, 59]⟩ : ByteArray), 0, 99, 0, 1),
  ((⟨#[38, 113, 117, 111, 116, 59]⟩ : ByteArray), 0, 99, 89, 6),
  ((⟨#[38, 113, 117, 111, 116, 120, 59]⟩ : ByteArray), 0, 99, 0, 1),
  ((⟨#[38, 110, 98, 115, 112, 59]⟩ : ByteArray), 0, 99, 89, 6),
  ((⟨#[38, 110, 98, 115, 112, 120, 59]⟩ : ByteArray), 0, 99, 0, 1),
  ((⟨#[38, 99, 111, 112, 121, 59]⟩ : ByteArray), 0, 99, 89, 6),
  ((⟨#[38, 99, 111, 112, 121, 120, 59]⟩ : ByteArray), 0, 99, 0, 1),
  ((⟨#[38, 114, 101, 103, 59]⟩ : ByteArray), 0, 99, 89, 5),
  ((⟨#[38, 114, 101, 103, 120, 59]⟩ : ByteArray), 0, 99, 0, 1),
  ((⟨#[38, 104, 101, 108, 108, 105, 112, 59]⟩ : ByteArray), 0, 99, 89, 8),
  ((⟨#[38, 104, 101, 108, 108, 105, 112, 120, 59]⟩ : ByteArray), 0, 99, 0, 1),
  ((⟨#[38, 109, 100, 97, 115, 104, 59]⟩ : ByteArray), 0, 99, 89, 7),
  ((⟨#[38, 109, 100, 97, 115, 104, 120, 59]⟩ : ByteArray), 0, 99, 0, 1),
  ((⟨#[38, 110, 100, 97, 115, 104, 59]⟩ : ByteArray), 0, 99, 89, 7),
  ((⟨#[38, 110, 100, 97, 115, 104, 120, 59]⟩ : ByteArray), 0, 99, 0, 1)]
abbrev Mrow := ByteArray × Int × ByteArray
def Mrow.cst (r : Mrow) : Cst := .call 16 [.str r.1, .int .i64 r.2.1] (.str r.2.2)
def kMany : List Mrow := [((⟨#[97]⟩ : ByteArray), 32, (⟨#[97, 97, 97, 97, 97, 97, 97, 97, 97, 97, 97, 97, 97, 97, 97, 97, 97, 97, 97, 97, 97, 97, 97, 97, 97, 97, 97, 97, 97, 97, 97, 97]⟩ : ByteArray)), ((⟨#[97]⟩ : ByteArray), 33, (⟨#[97, 97, 97, 97, 97, 97, 97, 97, 97, 97, 97, 97, 97, 97, 97, 97, 97, 97, 97, 97, 97, 97, 97, 97, 97, 97, 97, 97, 97, 97, 97, 97, 97]⟩ : ByteArray)), ((⟨#[98]⟩ : ByteArray), 63, (⟨#[98, 98, 98, 98, 98, 98, 98, 98, 98, 98, 98, 98, 98, 98, 98, 98, 98, 98, 98, 98, 98, 98, 98, 98, 98, 98, 98, 98, 98, 98, 98, 98, 98, 98, 98, 98, 98, 98, 98, 98, 98, 98, 98, 98, 98, 98, 98, 98, 98, 98, 98, 98, 98, 98, 98, 98, 98, 98, 98, 98, 98, 98, 98]⟩ : ByteArray)), ((⟨#[98]⟩ : ByteArray), 64, (⟨#[98, 98, 98, 98, 98, 98, 98, 98, 98, 98, 98, 98, 98, 98, 98, 98, 98, 98, 98, 98, 98, 98, 98, 98, 98, 98, 98, 98, 98, 98, 98, 98, 98, 98, 98, 98, 98, 98, 98, 98, 98, 98, 98, 98, 98, 98, 98, 98, 98, 98, 98, 98, 98, 98, 98, 98, 98, 98, 98, 98, 98, 98, 98, 98]⟩ : ByteArray))]
abbrev Srow := ByteArray × Int × Int
def Srow.cst (r : Srow) : Cst := .call 13 [.str r.1, .int .i64 r.2.1, .int .i64 r.2.2] .nils
def kSpans : List Srow := [((⟨#[92, 42]⟩ : ByteArray), -1, 9), ((⟨#[]⟩ : ByteArray), 0, 9)]
theorem holds_append {P : Program} {w : World} {a b : List Cst} (ha : Holds P w a) (hb : Holds P w b) : Holds P w (a ++ b) := fun c hc => (List.mem_append.1 hc).elim (ha c) (hb c)
theorem many_one (r : Mrow) (h : runA T8 Tryd.f16 100000 [.str r.1, .int .i64 r.2.1] ⟨true, [], [], []⟩ = some (.str r.2.2, [])) (w : World) : (Mrow.cst r).holds Tryd.prog w :=
  ⟨⟨_, Tryd.func16, by kernel_rfl, by kernel_rfl⟩, fun B W _ => runA_den prog_ok8 Tryd.func16 h (fun c hc => by cases hc) B⟩
theorem many_all : ∀ r ∈ kMany, runA T8 Tryd.f16 100000 [.str r.1, .int .i64 r.2.1] ⟨true, [], [], []⟩ = some (.str r.2.2, []) := by
  intro r hr
  unfold kMany at hr
  simp only [List.mem_cons, List.not_mem_nil, or_false] at hr
  rcases hr with rfl | rfl | rfl | rfl <;> kernel_rfl
theorem read_all : kRead.map (fun r => mdcode_Read.f 400 r.1 r.2.1 r.2.2.1) = kRead.map (fun r => some (r.2.2.2.1, r.2.2.2.2)) := by decide +kernel
theorem mem_map_eq {α β : Type} {f g : α → β} {l : List α} (h : l.map f = l.map g) : ∀ x ∈ l, f x = g x := by
  induction l with
  | nil => intro x hx; cases hx
  | cons y l ih =>
    simp only [List.map_cons, List.cons.injEq] at h
    intro x hx
    rcases List.mem_cons.1 hx with rfl | hx
    · exact h.1
    · exact ih h.2 x hx
theorem spans_all : ∀ r ∈ kSpans, mdcode_Spans.f 60 r.1 r.2.1 r.2.2 = some [] := by
  intro r hr
  unfold kSpans at hr
  simp only [List.mem_cons, List.not_mem_nil, or_false] at hr
  rcases hr with rfl | rfl <;> kernel_rfl
theorem read_one (w : World) (hM : Mx w) (r : Row) (hr : r ∈ kRead) : (Row.cst r).holds Tryd.prog w :=
  ⟨⟨_, Tryd.func9, by kernel_rfl, by kernel_rfl⟩, fun B W hB => mdcode_Read.calls 400 r.1 r.2.1 r.2.2.1 r.2.2.2.1 r.2.2.2.2 W (hM.below hB) (mem_map_eq read_all r hr)⟩
noncomputable def m0 : Mem := [some (.exact ⟨[(.int .u8 (96 : Int))], 5⟩), some (.exact ⟨[(.str (⟨#[92, 42, 10]⟩ : ByteArray)), (.int .i64 (0 : Int)), (.int .i64 (9 : Int)), (.int .u8 (90 : Int)), (.int .i64 (2 : Int)), (.str (⟨#[92, 97, 10]⟩ : ByteArray)), (.int .i64 (0 : Int)), (.int .i64 (9 : Int)), (.int .u8 (0 : Int)), (.int .i64 (1 : Int)), (.str (⟨#[92, 10]⟩ : ByteArray)), (.int .i64 (0 : Int)), (.int .i64 (9 : Int)), (.int .u8 (91 : Int)), (.int .i64 (1 : Int)), (.str (⟨#[92]⟩ : ByteArray)), (.int .i64 (0 : Int)), (.int .i64 (9 : Int)), (.int .u8 (91 : Int)), (.int .i64 (1 : Int)), (.str (⟨#[97, 92, 32, 98]⟩ : ByteArray)), (.int .i64 (1 : Int)), (.int .i64 (2 : Int)), (.int .u8 (0 : Int)), (.int .i64 (2 : Int)), (.str (⟨#[92, 42]⟩ : ByteArray)), (.int .i64 (0 : Int)), (.int .i64 (1 : Int)), (.int .u8 (0 : Int)), (.int .i64 (1 : Int)), (.str (⟨#[92, 13, 10]⟩ : ByteArray)), (.int .i64 (0 : Int)), (.int .i64 (9 : Int)), (.int .u8 (91 : Int)), (.int .i64 (1 : Int)), (.str (⟨#[32, 32, 10]⟩ : ByteArray)), (.int .i64 (0 : Int)), (.int .i64 (9 : Int)), (.int .u8 (91 : Int)), (.int .i64 (2 : Int)), (.str (⟨#[32, 10]⟩ : ByteArray)), (.int .i64 (0 : Int)), (.int .i64 (9 : Int)), (.int .u8 (0 : Int)), (.int .i64 (1 : Int)), (.str (⟨#[32, 32]⟩ : ByteArray)), (.int .i64 (0 : Int)), (.int .i64 (9 : Int)), (.int .u8 (0 : Int)), (.int .i64 (1 : Int)), (.str (⟨#[32, 32, 32, 13, 10]⟩ : ByteArray)), (.int .i64 (1 : Int)), (.int .i64 (9 : Int)), (.int .u8 (91 : Int)), (.int .i64 (3 : Int)), (.str (⟨#[32, 32, 9, 10]⟩ : ByteArray)), (.int .i64 (0 : Int)), (.int .i64 (9 : Int)), (.int .u8 (0 : Int)), (.int .i64 (1 : Int)), (.str (⟨#[32, 32, 97, 10]⟩ : ByteArray)), (.int .i64 (0 : Int)), (.int .i64 (2 : Int)), (.int .u8 (0 : Int)), (.int .i64 (1 : Int)), (.str (⟨#[96, 96, 97, 96, 98, 96, 96]⟩ : ByteArray)), (.int .i64 (0 : Int)), (.int .i64 (99 : Int)), (.int .u8 (83 : Int)), (.int .i64 (7 : Int)), (.str (⟨#[96, 96, 97, 96]⟩ : ByteArray)), (.int .i64 (0 : Int)), (.int .i64 (99 : Int)), (.int .u8 (0 : Int)), (.int .i64 (2 : Int)), (.str (⟨#[96, 97, 96, 96, 32, 96]⟩ : ByteArray)), (.int .i64 (0 : Int)), (.int .i64 (99 : Int)), (.int .u8 (83 : Int)), (.int .i64 (6 : Int)), (.str (⟨#[96, 97, 96]⟩ : ByteArray)), (.int .i64 (0 : Int)), (.int .i64 (2 : Int)), (.int .u8 (0 : Int)), (.int .i64 (1 : Int)), (.str (⟨#[96, 96]⟩ : ByteArray)), (.int .i64 (0 : Int)), (.int .i64 (9 : Int)), (.int .u8 (0 : Int)), (.int .i64 (2 : Int)), (.str (⟨#[96, 96, 96]⟩ : ByteArray)), (.int .i64 (1 : Int)), (.int .i64 (9 : Int)), (.int .u8 (0 : Int)), (.int .i64 (3 : Int)), (.str (⟨#[96, 10, 96]⟩ : ByteArray)), (.int .i64 (0 : Int)), (.int .i64 (9 : Int)), (.int .u8 (0 : Int)), (.int .i64 (1 : Int)), (.str (⟨#[96, 92, 96]⟩ : ByteArray)), (.int .i64 (0 : Int)), (.int .i64 (9 : Int)), (.int .u8 (83 : Int)), (.int .i64 (3 : Int)), (.str (⟨#[60, 97, 98, 58, 99, 62]⟩ : ByteArray)), (.int .i64 (0 : Int)), (.int .i64 (9 : Int)), (.int .u8 (88 : Int)), (.int .i64 (6 : Int)), (.str (⟨#[60, 97, 58, 99, 62]⟩ : ByteArray)), (.int .i64 (0 : Int)), (.int .i64 (9 : Int)), (.int .u8 (0 : Int)), (.int .i64 (1 : Int)), (.str (⟨#[60, 97, 64, 98, 46, 99, 62]⟩ : ByteArray)), (.int .i64 (0 : Int)), (.int .i64 (9 : Int)), (.int .u8 (88 : Int)), (.int .i64 (7 : Int)), (.str (⟨#[60, 97, 64, 45, 98, 62]⟩ : ByteArray)), (.int .i64 (0 : Int)), (.int .i64 (9 : Int)), (.int .u8 (0 : Int)), (.int .i64 (1 : Int)), (.str (⟨#[60, 97, 32, 98, 58, 99, 62]⟩ : ByteArray)), (.int .i64 (0 : Int)), (.int .i64 (9 : Int)), (.int .u8 (0 : Int)), (.int .i64 (1 : Int)), (.str (⟨#[60, 97, 98, 58, 62]⟩ : ByteArray)), (.int .i64 (0 : Int)), (.int .i64 (9 : Int)), (.int .u8 (88 : Int)), (.int .i64 (5 : Int)), (.str (⟨#[60, 97, 98, 58, 99]⟩ : ByteArray)), (.int .i64 (0 : Int)), (.int .i64 (9 : Int)), (.int .u8 (0 : Int)), (.int .i64 (1 : Int)), (.str (⟨#[60, 97, 98, 58, 99, 62]⟩ : ByteArray)), (.int .i64 (0 : Int)), (.int .i64 (5 : Int)), (.int .u8 (0 : Int)), (.int .i64 (1 : Int)), (.str (⟨#[60, 49, 98, 58, 99, 62]⟩ : ByteArray)), (.int .i64 (0 : Int)), (.int .i64 (9 : Int)), (.int .u8 (0 : Int)), (.int .i64 (1 : Int)), (.str (⟨#[60, 97, 43, 46, 45, 49, 58, 99, 62]⟩ : ByteArray)), (.int .i64 (0 : Int)), (.int .i64 (9 : Int)), (.int .u8 (88 : Int)), (.int .i64 (9 : Int)), (.str (⟨#[60, 97, 98, 58, 99, 60, 100, 62]⟩ : ByteArray)), (.int .i64 (0 : Int)), (.int .i64 (9 : Int)), (.int .u8 (0 : Int)), (.int .i64 (1 : Int)), (.str (⟨#[60, 97, 98, 58, 127, 62]⟩ : ByteArray)), (.int .i64 (0 : Int)), (.int .i64 (9 : Int)), (.int .u8 (0 : Int)), (.int .i64 (1 : Int)), (.str (⟨#[60, 97, 98, 58, 128, 62]⟩ : ByteArray)), (.int .i64 (0 : Int)), (.int .i64 (9 : Int)), (.int .u8 (88 : Int)), (.int .i64 (6 : Int)), (.str (⟨#[60, 64, 98, 62]⟩ : ByteArray)), (.int .i64 (0 : Int)), (.int .i64 (9 : Int)), (.int .u8 (0 : Int)), (.int .i64 (1 : Int)), (.str (⟨#[60, 97, 64, 62]⟩ : ByteArray)), (.int .i64 (0 : Int)), (.int .i64 (9 : Int)), (.int .u8 (0 : Int)), (.int .i64 (1 : Int)), (.str (⟨#[60, 97, 64, 98, 46, 46, 99, 62]⟩ : ByteArray)), (.int .i64 (0 : Int)), (.int .i64 (9 : Int)), (.int .u8 (0 : Int)), (.int .i64 (1 : Int)), (.str (⟨#[60, 97, 64, 98, 45, 62]⟩ : ByteArray)), (.int .i64 (0 : Int)), (.int .i64 (9 : Int)), (.int .u8 (0 : Int)), (.int .i64 (1 : Int)), (.str (⟨#[60, 96, 126, 64, 48, 62]⟩ : ByteArray)), (.int .i64 (0 : Int)), (.int .i64 (9 : Int)), (.int .u8 (88 : Int)), (.int .i64 (6 : Int)), (.str (⟨#[60, 62]⟩ : ByteArray)), (.int .i64 (0 : Int)), (.int .i64 (9 : Int)), (.int .u8 (0 : Int)), (.int .i64 (1 : Int)), (.str (⟨#[60, 97, 44, 98, 64, 99, 62]⟩ : ByteArray)), (.int .i64 (0 : Int)), (.int .i64 (9 : Int)), (.int .u8 (0 : Int)), (.int .i64 (1 : Int)), (.str (⟨#[60, 97, 97, 97, 97, 97, 97, 97, 97, 97, 97, 97, 97, 97, 97, 97, 97, 97, 97, 97, 97, 97, 97, 97, 97, 97, 97, 97, 97, 97, 97, 97, 97, 58, 62]⟩ : ByteArray)), (.int .i64 (0 : Int)), (.int .i64 (99 : Int)), (.int .u8 (88 : Int)), (.int .i64 (35 : Int)), (.str (⟨#[60, 97, 97, 97, 97, 97, 97, 97, 97, 97, 97, 97, 97, 97, 97, 97, 97, 97, 97, 97, 97, 97, 97, 97, 97, 97, 97, 97, 97, 97, 97, 97, 97, 97, 58, 62]⟩ : ByteArray)), (.int .i64 (0 : Int)), (.int .i64 (99 : Int)), (.int .u8 (0 : Int)), (.int .i64 (1 : Int)), (.str (⟨#[60, 97, 64, 98, 98, 98, 98, 98, 98, 98, 98, 98, 98, 98, 98, 98, 98, 98, 98, 98, 98, 98, 98, 98, 98, 98, 98, 98, 98, 98, 98, 98, 98, 98, 98, 98, 98, 98, 98, 98, 98, 98, 98, 98, 98, 98, 98, 98, 98, 98, 98, 98, 98, 98, 98, 98, 98, 98, 98, 98, 98, 98, 98, 98, 98, 98, 62]⟩ : ByteArray)), (.int .i64 (0 : Int)), (.int .i64 (99 : Int)), (.int .u8 (88 : Int)), (.int .i64 (67 : Int)), (.str (⟨#[60, 97, 64, 98, 98, 98, 98, 98, 98, 98, 98, 98, 98, 98, 98, 98, 98, 98, 98, 98, 98, 98, 98, 98, 98, 98, 98, 98, 98, 98, 98, 98, 98, 98, 98, 98, 98, 98, 98, 98, 98, 98, 98, 98, 98, 98, 98, 98, 98, 98, 98, 98, 98, 98, 98, 98, 98, 98, 98, 98, 98, 98, 98, 98, 98, 98, 98, 62]⟩ : ByteArray)), (.int .i64 (0 : Int)), (.int .i64 (99 : Int)), (.int .u8 (0 : Int)), (.int .i64 (1 : Int)), (.str (⟨#[38, 97, 109, 112, 59]⟩ : ByteArray)), (.int .i64 (0 : Int)), (.int .i64 (9 : Int)), (.int .u8 (89 : Int)), (.int .i64 (5 : Int)), (.str (⟨#[38, 35, 49, 50, 59]⟩ : ByteArray)), (.int .i64 (0 : Int)), (.int .i64 (9 : Int)), (.int .u8 (89 : Int)), (.int .i64 (5 : Int)), (.str (⟨#[38, 35, 120, 65, 102, 59]⟩ : ByteArray)), (.int .i64 (0 : Int)), (.int .i64 (9 : Int)), (.int .u8 (89 : Int)), (.int .i64 (6 : Int)), (.str (⟨#[38, 102, 111, 111, 59]⟩ : ByteArray)), (.int .i64 (0 : Int)), (.int .i64 (9 : Int)), (.int .u8 (0 : Int)), (.int .i64 (1 : Int)), (.str (⟨#[38, 35, 49, 50, 51, 52, 53, 54, 55, 56, 59]⟩ : ByteArray)), (.int .i64 (0 : Int)), (.int .i64 (99 : Int)), (.int .u8 (0 : Int)), (.int .i64 (1 : Int)), (.str (⟨#[38, 35, 49, 50, 51, 52, 53, 54, 55, 59]⟩ : ByteArray)), (.int .i64 (0 : Int)), (.int .i64 (99 : Int)), (.int .u8 (89 : Int)), (.int .i64 (10 : Int)), (.str (⟨#[38, 35, 120, 49, 50, 51, 52, 53, 54, 55, 59]⟩ : ByteArray)), (.int .i64 (0 : Int)), (.int .i64 (99 : Int)), (.int .u8 (0 : Int)), (.int .i64 (1 : Int)), (.str (⟨#[38, 35, 88, 49, 50, 51, 52, 53, 54, 59]⟩ : ByteArray)), (.int .i64 (0 : Int)), (.int .i64 (99 : Int)), (.int .u8 (89 : Int)), (.int .i64 (10 : Int)), (.str (⟨#[38, 59]⟩ : ByteArray)), (.int .i64 (0 : Int)), (.int .i64 (9 : Int)), (.int .u8 (0 : Int)), (.int .i64 (1 : Int)), (.str (⟨#[38, 35, 59]⟩ : ByteArray)), (.int .i64 (0 : Int)), (.int .i64 (9 : Int)), (.int .u8 (0 : Int)), (.int .i64 (1 : Int)), (.str (⟨#[38, 35, 120, 59]⟩ : ByteArray)), (.int .i64 (0 : Int)), (.int .i64 (9 : Int)), (.int .u8 (0 : Int)), (.int .i64 (1 : Int)), (.str (⟨#[38, 108, 116]⟩ : ByteArray)), (.int .i64 (0 : Int)), (.int .i64 (9 : Int)), (.int .u8 (0 : Int)), (.int .i64 (1 : Int)), (.str (⟨#[38, 97, 109, 112, 32, 108, 116, 59]⟩ : ByteArray)), (.int .i64 (0 : Int)), (.int .i64 (9 : Int)), (.int .u8 (0 : Int)), (.int .i64 (1 : Int)), (.str (⟨#[38, 65, 109, 112, 59]⟩ : ByteArray)), (.int .i64 (0 : Int)), (.int .i64 (9 : Int)), (.int .u8 (0 : Int)), (.int .i64 (1 : Int)), (.str (⟨#[38, 35, 120, 103, 59]⟩ : ByteArray)), (.int .i64 (0 : Int)), (.int .i64 (9 : Int)), (.int .u8 (0 : Int)), (.int .i64 (1 : Int)), (.str (⟨#[38, 104, 101, 108, 108, 105, 112, 59]⟩ : ByteArray)), (.int .i64 (0 : Int)), (.int .i64 (8 : Int)), (.int .u8 (89 : Int)), (.int .i64 (8 : Int)), (.str (⟨#[38, 104, 101, 108, 108, 105, 112, 59]⟩ : ByteArray)), (.int .i64 (0 : Int)), (.int .i64 (7 : Int)), (.int .u8 (0 : Int)), (.int .i64 (1 : Int)), (.str (⟨#[97]⟩ : ByteArray)), (.int .i64 (0 : Int)), (.int .i64 (9 : Int)), (.int .u8 (0 : Int)), (.int .i64 (1 : Int)), (.str (⟨#[97]⟩ : ByteArray)), (.int .i64 (1 : Int)), (.int .i64 (9 : Int)), (.int .u8 (0 : Int)), (.int .i64 (0 : Int)), (.str (⟨#[97]⟩ : ByteArray)), (.int .i64 (-1 : Int)), (.int .i64 (9 : Int)), (.int .u8 (0 : Int)), (.int .i64 (0 : Int)), (.str (⟨#[97]⟩ : ByteArray)), (.int .i64 (0 : Int)), (.int .i64 (0 : Int)), (.int .u8 (0 : Int)), (.int .i64 (0 : Int)), (.str (⟨#[97]⟩ : ByteArray)), (.int .i64 (0 : Int)), (.int .i64 (-5 : Int)), (.int .u8 (0 : Int)), (.int .i64 (0 : Int))], 37⟩)]
noncomputable def S0 (i : Nat) : Env := envOf 228 [(2, (.slice 1 0 67 67)), (3, .int .i64 (i : Int))]
noncomputable def body0 : Code := loopNo Tryd.f8 0
def ks0 : List Nat := [2, 3]
theorem round0_0 : execM T8 300 ks0 body0 (S0 0) m0 ⟨true, [], ((kRead.drop 0).take 1).map Row.res, []⟩ = some (.normal, S0 1, m0, ((kRead.drop 0).take 1).map Row.cst) := by kernel_rfl
theorem round0_1 : execM T8 300 ks0 body0 (S0 1) m0 ⟨true, [], ((kRead.drop 1).take 1).map Row.res, []⟩ = some (.normal, S0 2, m0, ((kRead.drop 1).take 1).map Row.cst) := by kernel_rfl
theorem round0_2 : execM T8 300 ks0 body0 (S0 2) m0 ⟨true, [], ((kRead.drop 2).take 1).map Row.res, []⟩ = some (.normal, S0 3, m0, ((kRead.drop 2).take 1).map Row.cst) := by kernel_rfl
theorem round0_3 : execM T8 300 ks0 body0 (S0 3) m0 ⟨true, [], ((kRead.drop 3).take 1).map Row.res, []⟩ = some (.normal, S0 4, m0, ((kRead.drop 3).take 1).map Row.cst) := by kernel_rfl
theorem round0_4 : execM T8 300 ks0 body0 (S0 4) m0 ⟨true, [], ((kRead.drop 4).take 1).map Row.res, []⟩ = some (.normal, S0 5, m0, ((kRead.drop 4).take 1).map Row.cst) := by kernel_rfl
theorem round0_5 : execM T8 300 ks0 body0 (S0 5) m0 ⟨true, [], ((kRead.drop 5).take 1).map Row.res, []⟩ = some (.normal, S0 6, m0, ((kRead.drop 5).take 1).map Row.cst) := by kernel_rfl
theorem round0_6 : execM T8 300 ks0 body0 (S0 6) m0 ⟨true, [], ((kRead.drop 6).take 1).map Row.res, []⟩ = some (.normal, S0 7, m0, ((kRead.drop 6).take 1).map Row.cst) := by kernel_rfl
theorem round0_7 : execM T8 300 ks0 body0 (S0 7) m0 ⟨true, [], ((kRead.drop 7).take 1).map Row.res, []⟩ = some (.normal, S0 8, m0, ((kRead.drop 7).take 1).map Row.cst) := by kernel_rfl
theorem round0_8 : execM T8 300 ks0 body0 (S0 8) m0 ⟨true, [], ((kRead.drop 8).take 1).map Row.res, []⟩ = some (.normal, S0 9, m0, ((kRead.drop 8).take 1).map Row.cst) := by kernel_rfl
theorem round0_9 : execM T8 300 ks0 body0 (S0 9) m0 ⟨true, [], ((kRead.drop 9).take 1).map Row.res, []⟩ = some (.normal, S0 10, m0, ((kRead.drop 9).take 1).map Row.cst) := by kernel_rfl
theorem round0_10 : execM T8 300 ks0 body0 (S0 10) m0 ⟨true, [], ((kRead.drop 10).take 1).map Row.res, []⟩ = some (.normal, S0 11, m0, ((kRead.drop 10).take 1).map Row.cst) := by kernel_rfl
theorem round0_11 : execM T8 300 ks0 body0 (S0 11) m0 ⟨true, [], ((kRead.drop 11).take 1).map Row.res, []⟩ = some (.normal, S0 12, m0, ((kRead.drop 11).take 1).map Row.cst) := by kernel_rfl
theorem round0_12 : execM T8 300 ks0 body0 (S0 12) m0 ⟨true, [], ((kRead.drop 12).take 1).map Row.res, []⟩ = some (.normal, S0 13, m0, ((kRead.drop 12).take 1).map Row.cst) := by kernel_rfl
theorem round0_13 : execM T8 300 ks0 body0 (S0 13) m0 ⟨true, [], ((kRead.drop 13).take 1).map Row.res, []⟩ = some (.normal, S0 14, m0, ((kRead.drop 13).take 1).map Row.cst) := by kernel_rfl
theorem round0_14 : execM T8 300 ks0 body0 (S0 14) m0 ⟨true, [], ((kRead.drop 14).take 1).map Row.res, []⟩ = some (.normal, S0 15, m0, ((kRead.drop 14).take 1).map Row.cst) := by kernel_rfl
theorem round0_15 : execM T8 300 ks0 body0 (S0 15) m0 ⟨true, [], ((kRead.drop 15).take 1).map Row.res, []⟩ = some (.normal, S0 16, m0, ((kRead.drop 15).take 1).map Row.cst) := by kernel_rfl
theorem round0_16 : execM T8 300 ks0 body0 (S0 16) m0 ⟨true, [], ((kRead.drop 16).take 1).map Row.res, []⟩ = some (.normal, S0 17, m0, ((kRead.drop 16).take 1).map Row.cst) := by kernel_rfl
theorem round0_17 : execM T8 300 ks0 body0 (S0 17) m0 ⟨true, [], ((kRead.drop 17).take 1).map Row.res, []⟩ = some (.normal, S0 18, m0, ((kRead.drop 17).take 1).map Row.cst) := by kernel_rfl
theorem round0_18 : execM T8 300 ks0 body0 (S0 18) m0 ⟨true, [], ((kRead.drop 18).take 1).map Row.res, []⟩ = some (.normal, S0 19, m0, ((kRead.drop 18).take 1).map Row.cst) := by kernel_rfl
theorem round0_19 : execM T8 300 ks0 body0 (S0 19) m0 ⟨true, [], ((kRead.drop 19).take 1).map Row.res, []⟩ = some (.normal, S0 20, m0, ((kRead.drop 19).take 1).map Row.cst) := by kernel_rfl
theorem round0_20 : execM T8 300 ks0 body0 (S0 20) m0 ⟨true, [], ((kRead.drop 20).take 1).map Row.res, []⟩ = some (.normal, S0 21, m0, ((kRead.drop 20).take 1).map Row.cst) := by kernel_rfl
theorem round0_21 : execM T8 300 ks0 body0 (S0 21) m0 ⟨true, [], ((kRead.drop 21).take 1).map Row.res, []⟩ = some (.normal, S0 22, m0, ((kRead.drop 21).take 1).map Row.cst) := by kernel_rfl
theorem round0_22 : execM T8 300 ks0 body0 (S0 22) m0 ⟨true, [], ((kRead.drop 22).take 1).map Row.res, []⟩ = some (.normal, S0 23, m0, ((kRead.drop 22).take 1).map Row.cst) := by kernel_rfl
theorem round0_23 : execM T8 300 ks0 body0 (S0 23) m0 ⟨true, [], ((kRead.drop 23).take 1).map Row.res, []⟩ = some (.normal, S0 24, m0, ((kRead.drop 23).take 1).map Row.cst) := by kernel_rfl
theorem round0_24 : execM T8 300 ks0 body0 (S0 24) m0 ⟨true, [], ((kRead.drop 24).take 1).map Row.res, []⟩ = some (.normal, S0 25, m0, ((kRead.drop 24).take 1).map Row.cst) := by kernel_rfl
theorem round0_25 : execM T8 300 ks0 body0 (S0 25) m0 ⟨true, [], ((kRead.drop 25).take 1).map Row.res, []⟩ = some (.normal, S0 26, m0, ((kRead.drop 25).take 1).map Row.cst) := by kernel_rfl
theorem round0_26 : execM T8 300 ks0 body0 (S0 26) m0 ⟨true, [], ((kRead.drop 26).take 1).map Row.res, []⟩ = some (.normal, S0 27, m0, ((kRead.drop 26).take 1).map Row.cst) := by kernel_rfl
theorem round0_27 : execM T8 300 ks0 body0 (S0 27) m0 ⟨true, [], ((kRead.drop 27).take 1).map Row.res, []⟩ = some (.normal, S0 28, m0, ((kRead.drop 27).take 1).map Row.cst) := by kernel_rfl
theorem round0_28 : execM T8 300 ks0 body0 (S0 28) m0 ⟨true, [], ((kRead.drop 28).take 1).map Row.res, []⟩ = some (.normal, S0 29, m0, ((kRead.drop 28).take 1).map Row.cst) := by kernel_rfl
theorem round0_29 : execM T8 300 ks0 body0 (S0 29) m0 ⟨true, [], ((kRead.drop 29).take 1).map Row.res, []⟩ = some (.normal, S0 30, m0, ((kRead.drop 29).take 1).map Row.cst) := by kernel_rfl
theorem round0_30 : execM T8 300 ks0 body0 (S0 30) m0 ⟨true, [], ((kRead.drop 30).take 1).map Row.res, []⟩ = some (.normal, S0 31, m0, ((kRead.drop 30).take 1).map Row.cst) := by kernel_rfl
theorem round0_31 : execM T8 300 ks0 body0 (S0 31) m0 ⟨true, [], ((kRead.drop 31).take 1).map Row.res, []⟩ = some (.normal, S0 32, m0, ((kRead.drop 31).take 1).map Row.cst) := by kernel_rfl
theorem round0_32 : execM T8 300 ks0 body0 (S0 32) m0 ⟨true, [], ((kRead.drop 32).take 1).map Row.res, []⟩ = some (.normal, S0 33, m0, ((kRead.drop 32).take 1).map Row.cst) := by kernel_rfl
theorem round0_33 : execM T8 300 ks0 body0 (S0 33) m0 ⟨true, [], ((kRead.drop 33).take 1).map Row.res, []⟩ = some (.normal, S0 34, m0, ((kRead.drop 33).take 1).map Row.cst) := by kernel_rfl
theorem round0_34 : execM T8 300 ks0 body0 (S0 34) m0 ⟨true, [], ((kRead.drop 34).take 1).map Row.res, []⟩ = some (.normal, S0 35, m0, ((kRead.drop 34).take 1).map Row.cst) := by kernel_rfl
theorem round0_35 : execM T8 300 ks0 body0 (S0 35) m0 ⟨true, [], ((kRead.drop 35).take 1).map Row.res, []⟩ = some (.normal, S0 36, m0, ((kRead.drop 35).take 1).map Row.cst) := by kernel_rfl
theorem round0_36 : execM T8 300 ks0 body0 (S0 36) m0 ⟨true, [], ((kRead.drop 36).take 1).map Row.res, []⟩ = some (.normal, S0 37, m0, ((kRead.drop 36).take 1).map Row.cst) := by kernel_rfl
theorem round0_37 : execM T8 300 ks0 body0 (S0 37) m0 ⟨true, [], ((kRead.drop 37).take 1).map Row.res, []⟩ = some (.normal, S0 38, m0, ((kRead.drop 37).take 1).map Row.cst) := by kernel_rfl
theorem round0_38 : execM T8 300 ks0 body0 (S0 38) m0 ⟨true, [], ((kRead.drop 38).take 1).map Row.res, []⟩ = some (.normal, S0 39, m0, ((kRead.drop 38).take 1).map Row.cst) := by kernel_rfl
theorem round0_39 : execM T8 300 ks0 body0 (S0 39) m0 ⟨true, [], ((kRead.drop 39).take 1).map Row.res, []⟩ = some (.normal, S0 40, m0, ((kRead.drop 39).take 1).map Row.cst) := by kernel_rfl
theorem round0_40 : execM T8 300 ks0 body0 (S0 40) m0 ⟨true, [], ((kRead.drop 40).take 1).map Row.res, []⟩ = some (.normal, S0 41, m0, ((kRead.drop 40).take 1).map Row.cst) := by kernel_rfl
theorem round0_41 : execM T8 300 ks0 body0 (S0 41) m0 ⟨true, [], ((kRead.drop 41).take 1).map Row.res, []⟩ = some (.normal, S0 42, m0, ((kRead.drop 41).take 1).map Row.cst) := by kernel_rfl
theorem round0_42 : execM T8 300 ks0 body0 (S0 42) m0 ⟨true, [], ((kRead.drop 42).take 1).map Row.res, []⟩ = some (.normal, S0 43, m0, ((kRead.drop 42).take 1).map Row.cst) := by kernel_rfl
theorem round0_43 : execM T8 300 ks0 body0 (S0 43) m0 ⟨true, [], ((kRead.drop 43).take 1).map Row.res, []⟩ = some (.normal, S0 44, m0, ((kRead.drop 43).take 1).map Row.cst) := by kernel_rfl
theorem round0_44 : execM T8 300 ks0 body0 (S0 44) m0 ⟨true, [], ((kRead.drop 44).take 1).map Row.res, []⟩ = some (.normal, S0 45, m0, ((kRead.drop 44).take 1).map Row.cst) := by kernel_rfl
theorem round0_45 : execM T8 300 ks0 body0 (S0 45) m0 ⟨true, [], ((kRead.drop 45).take 1).map Row.res, []⟩ = some (.normal, S0 46, m0, ((kRead.drop 45).take 1).map Row.cst) := by kernel_rfl
theorem round0_46 : execM T8 300 ks0 body0 (S0 46) m0 ⟨true, [], ((kRead.drop 46).take 1).map Row.res, []⟩ = some (.normal, S0 47, m0, ((kRead.drop 46).take 1).map Row.cst) := by kernel_rfl
theorem round0_47 : execM T8 300 ks0 body0 (S0 47) m0 ⟨true, [], ((kRead.drop 47).take 1).map Row.res, []⟩ = some (.normal, S0 48, m0, ((kRead.drop 47).take 1).map Row.cst) := by kernel_rfl
theorem round0_48 : execM T8 300 ks0 body0 (S0 48) m0 ⟨true, [], ((kRead.drop 48).take 1).map Row.res, []⟩ = some (.normal, S0 49, m0, ((kRead.drop 48).take 1).map Row.cst) := by kernel_rfl
theorem round0_49 : execM T8 300 ks0 body0 (S0 49) m0 ⟨true, [], ((kRead.drop 49).take 1).map Row.res, []⟩ = some (.normal, S0 50, m0, ((kRead.drop 49).take 1).map Row.cst) := by kernel_rfl
theorem round0_50 : execM T8 300 ks0 body0 (S0 50) m0 ⟨true, [], ((kRead.drop 50).take 1).map Row.res, []⟩ = some (.normal, S0 51, m0, ((kRead.drop 50).take 1).map Row.cst) := by kernel_rfl
theorem round0_51 : execM T8 300 ks0 body0 (S0 51) m0 ⟨true, [], ((kRead.drop 51).take 1).map Row.res, []⟩ = some (.normal, S0 52, m0, ((kRead.drop 51).take 1).map Row.cst) := by kernel_rfl
theorem round0_52 : execM T8 300 ks0 body0 (S0 52) m0 ⟨true, [], ((kRead.drop 52).take 1).map Row.res, []⟩ = some (.normal, S0 53, m0, ((kRead.drop 52).take 1).map Row.cst) := by kernel_rfl
theorem round0_53 : execM T8 300 ks0 body0 (S0 53) m0 ⟨true, [], ((kRead.drop 53).take 1).map Row.res, []⟩ = some (.normal, S0 54, m0, ((kRead.drop 53).take 1).map Row.cst) := by kernel_rfl
theorem round0_54 : execM T8 300 ks0 body0 (S0 54) m0 ⟨true, [], ((kRead.drop 54).take 1).map Row.res, []⟩ = some (.normal, S0 55, m0, ((kRead.drop 54).take 1).map Row.cst) := by kernel_rfl
theorem round0_55 : execM T8 300 ks0 body0 (S0 55) m0 ⟨true, [], ((kRead.drop 55).take 1).map Row.res, []⟩ = some (.normal, S0 56, m0, ((kRead.drop 55).take 1).map Row.cst) := by kernel_rfl
theorem round0_56 : execM T8 300 ks0 body0 (S0 56) m0 ⟨true, [], ((kRead.drop 56).take 1).map Row.res, []⟩ = some (.normal, S0 57, m0, ((kRead.drop 56).take 1).map Row.cst) := by kernel_rfl
theorem round0_57 : execM T8 300 ks0 body0 (S0 57) m0 ⟨true, [], ((kRead.drop 57).take 1).map Row.res, []⟩ = some (.normal, S0 58, m0, ((kRead.drop 57).take 1).map Row.cst) := by kernel_rfl
theorem round0_58 : execM T8 300 ks0 body0 (S0 58) m0 ⟨true, [], ((kRead.drop 58).take 1).map Row.res, []⟩ = some (.normal, S0 59, m0, ((kRead.drop 58).take 1).map Row.cst) := by kernel_rfl
theorem round0_59 : execM T8 300 ks0 body0 (S0 59) m0 ⟨true, [], ((kRead.drop 59).take 1).map Row.res, []⟩ = some (.normal, S0 60, m0, ((kRead.drop 59).take 1).map Row.cst) := by kernel_rfl
theorem round0_60 : execM T8 300 ks0 body0 (S0 60) m0 ⟨true, [], ((kRead.drop 60).take 1).map Row.res, []⟩ = some (.normal, S0 61, m0, ((kRead.drop 60).take 1).map Row.cst) := by kernel_rfl
theorem round0_61 : execM T8 300 ks0 body0 (S0 61) m0 ⟨true, [], ((kRead.drop 61).take 1).map Row.res, []⟩ = some (.normal, S0 62, m0, ((kRead.drop 61).take 1).map Row.cst) := by kernel_rfl
theorem round0_62 : execM T8 300 ks0 body0 (S0 62) m0 ⟨true, [], ((kRead.drop 62).take 1).map Row.res, []⟩ = some (.normal, S0 63, m0, ((kRead.drop 62).take 1).map Row.cst) := by kernel_rfl
theorem round0_63 : execM T8 300 ks0 body0 (S0 63) m0 ⟨true, [], ((kRead.drop 63).take 1).map Row.res, []⟩ = some (.normal, S0 64, m0, ((kRead.drop 63).take 1).map Row.cst) := by kernel_rfl
theorem round0_64 : execM T8 300 ks0 body0 (S0 64) m0 ⟨true, [], ((kRead.drop 64).take 1).map Row.res, []⟩ = some (.normal, S0 65, m0, ((kRead.drop 64).take 1).map Row.cst) := by kernel_rfl
theorem round0_65 : execM T8 300 ks0 body0 (S0 65) m0 ⟨true, [], ((kRead.drop 65).take 1).map Row.res, []⟩ = some (.normal, S0 66, m0, ((kRead.drop 65).take 1).map Row.cst) := by kernel_rfl
theorem round0_66 : execM T8 300 ks0 body0 (S0 66) m0 ⟨true, [], ((kRead.drop 66).take 1).map Row.res, []⟩ = some (.normal, S0 67, m0, ((kRead.drop 66).take 1).map Row.cst) := by kernel_rfl
theorem end0 : execM T8 300 ks0 body0 (S0 67) m0 ⟨true, [], [], []⟩ = some (.exit 0, S0 67, m0, []) := by kernel_rfl
theorem part_holds0 (w : World) (hM : Mx w) (a b : Nat) : Holds Tryd.prog w (((kRead.drop a).take b).map Row.cst) := fun c hc => by
  obtain ⟨r, hr, rfl⟩ := List.mem_map.1 hc
  exact read_one w hM r (List.mem_of_mem_drop (List.mem_of_mem_take hr))
theorem loop0 (w : World) (hM : Mx w) : CodeOK Tryd.prog w (.loop body0) (S0 0) m0 (.exit 0) (S0 67) m0 :=
  loop_rule (S := S0) (M := fun _ => m0) (N := 67) (fun h => by cases h) (fun k hk => match k with
    | 0 => execM_den prog_ok8 round0_0 (part_holds0 w hM _ _)
    | 1 => execM_den prog_ok8 round0_1 (part_holds0 w hM _ _)
    | 2 => execM_den prog_ok8 round0_2 (part_holds0 w hM _ _)
    | 3 => execM_den prog_ok8 round0_3 (part_holds0 w hM _ _)
    | 4 => execM_den prog_ok8 round0_4 (part_holds0 w hM _ _)
    | 5 => execM_den prog_ok8 round0_5 (part_holds0 w hM _ _)
    | 6 => execM_den prog_ok8 round0_6 (part_holds0 w hM _ _)
    | 7 => execM_den prog_ok8 round0_7 (part_holds0 w hM _ _)
    | 8 => execM_den prog_ok8 round0_8 (part_holds0 w hM _ _)
    | 9 => execM_den prog_ok8 round0_9 (part_holds0 w hM _ _)
    | 10 => execM_den prog_ok8 round0_10 (part_holds0 w hM _ _)
    | 11 => execM_den prog_ok8 round0_11 (part_holds0 w hM _ _)
    | 12 => execM_den prog_ok8 round0_12 (part_holds0 w hM _ _)
    | 13 => execM_den prog_ok8 round0_13 (part_holds0 w hM _ _)
    | 14 => execM_den prog_ok8 round0_14 (part_holds0 w hM _ _)
    | 15 => execM_den prog_ok8 round0_15 (part_holds0 w hM _ _)
    | 16 => execM_den prog_ok8 round0_16 (part_holds0 w hM _ _)
    | 17 => execM_den prog_ok8 round0_17 (part_holds0 w hM _ _)
    | 18 => execM_den prog_ok8 round0_18 (part_holds0 w hM _ _)
    | 19 => execM_den prog_ok8 round0_19 (part_holds0 w hM _ _)
    | 20 => execM_den prog_ok8 round0_20 (part_holds0 w hM _ _)
    | 21 => execM_den prog_ok8 round0_21 (part_holds0 w hM _ _)
    | 22 => execM_den prog_ok8 round0_22 (part_holds0 w hM _ _)
    | 23 => execM_den prog_ok8 round0_23 (part_holds0 w hM _ _)
    | 24 => execM_den prog_ok8 round0_24 (part_holds0 w hM _ _)
    | 25 => execM_den prog_ok8 round0_25 (part_holds0 w hM _ _)
    | 26 => execM_den prog_ok8 round0_26 (part_holds0 w hM _ _)
    | 27 => execM_den prog_ok8 round0_27 (part_holds0 w hM _ _)
    | 28 => execM_den prog_ok8 round0_28 (part_holds0 w hM _ _)
    | 29 => execM_den prog_ok8 round0_29 (part_holds0 w hM _ _)
    | 30 => execM_den prog_ok8 round0_30 (part_holds0 w hM _ _)
    | 31 => execM_den prog_ok8 round0_31 (part_holds0 w hM _ _)
    | 32 => execM_den prog_ok8 round0_32 (part_holds0 w hM _ _)
    | 33 => execM_den prog_ok8 round0_33 (part_holds0 w hM _ _)
    | 34 => execM_den prog_ok8 round0_34 (part_holds0 w hM _ _)
    | 35 => execM_den prog_ok8 round0_35 (part_holds0 w hM _ _)
    | 36 => execM_den prog_ok8 round0_36 (part_holds0 w hM _ _)
    | 37 => execM_den prog_ok8 round0_37 (part_holds0 w hM _ _)
    | 38 => execM_den prog_ok8 round0_38 (part_holds0 w hM _ _)
    | 39 => execM_den prog_ok8 round0_39 (part_holds0 w hM _ _)
    | 40 => execM_den prog_ok8 round0_40 (part_holds0 w hM _ _)
    | 41 => execM_den prog_ok8 round0_41 (part_holds0 w hM _ _)
    | 42 => execM_den prog_ok8 round0_42 (part_holds0 w hM _ _)
    | 43 => execM_den prog_ok8 round0_43 (part_holds0 w hM _ _)
    | 44 => execM_den prog_ok8 round0_44 (part_holds0 w hM _ _)
    | 45 => execM_den prog_ok8 round0_45 (part_holds0 w hM _ _)
    | 46 => execM_den prog_ok8 round0_46 (part_holds0 w hM _ _)
    | 47 => execM_den prog_ok8 round0_47 (part_holds0 w hM _ _)
    | 48 => execM_den prog_ok8 round0_48 (part_holds0 w hM _ _)
    | 49 => execM_den prog_ok8 round0_49 (part_holds0 w hM _ _)
    | 50 => execM_den prog_ok8 round0_50 (part_holds0 w hM _ _)
    | 51 => execM_den prog_ok8 round0_51 (part_holds0 w hM _ _)
    | 52 => execM_den prog_ok8 round0_52 (part_holds0 w hM _ _)
    | 53 => execM_den prog_ok8 round0_53 (part_holds0 w hM _ _)
    | 54 => execM_den prog_ok8 round0_54 (part_holds0 w hM _ _)
    | 55 => execM_den prog_ok8 round0_55 (part_holds0 w hM _ _)
    | 56 => execM_den prog_ok8 round0_56 (part_holds0 w hM _ _)
    | 57 => execM_den prog_ok8 round0_57 (part_holds0 w hM _ _)
    | 58 => execM_den prog_ok8 round0_58 (part_holds0 w hM _ _)
    | 59 => execM_den prog_ok8 round0_59 (part_holds0 w hM _ _)
    | 60 => execM_den prog_ok8 round0_60 (part_holds0 w hM _ _)
    | 61 => execM_den prog_ok8 round0_61 (part_holds0 w hM _ _)
    | 62 => execM_den prog_ok8 round0_62 (part_holds0 w hM _ _)
    | 63 => execM_den prog_ok8 round0_63 (part_holds0 w hM _ _)
    | 64 => execM_den prog_ok8 round0_64 (part_holds0 w hM _ _)
    | 65 => execM_den prog_ok8 round0_65 (part_holds0 w hM _ _)
    | 66 => execM_den prog_ok8 round0_66 (part_holds0 w hM _ _)
    | n + 67 => absurd hk (by omega)) (execM_den prog_ok8 end0 holds_nil)
noncomputable def m1 : Mem := [some (.exact ⟨[(.int .u8 (96 : Int))], 5⟩), some (.exact ⟨[(.str (⟨#[92, 42, 10]⟩ : ByteArray)), (.int .i64 (0 : Int)), (.int .i64 (9 : Int)), (.int .u8 (90 : Int)), (.int .i64 (2 : Int)), (.str (⟨#[92, 97, 10]⟩ : ByteArray)), (.int .i64 (0 : Int)), (.int .i64 (9 : Int)), (.int .u8 (0 : Int)), (.int .i64 (1 : Int)), (.str (⟨#[92, 10]⟩ : ByteArray)), (.int .i64 (0 : Int)), (.int .i64 (9 : Int)), (.int .u8 (91 : Int)), (.int .i64 (1 : Int)), (.str (⟨#[92]⟩ : ByteArray)), (.int .i64 (0 : Int)), (.int .i64 (9 : Int)), (.int .u8 (91 : Int)), (.int .i64 (1 : Int)), (.str (⟨#[97, 92, 32, 98]⟩ : ByteArray)), (.int .i64 (1 : Int)), (.int .i64 (2 : Int)), (.int .u8 (0 : Int)), (.int .i64 (2 : Int)), (.str (⟨#[92, 42]⟩ : ByteArray)), (.int .i64 (0 : Int)), (.int .i64 (1 : Int)), (.int .u8 (0 : Int)), (.int .i64 (1 : Int)), (.str (⟨#[92, 13, 10]⟩ : ByteArray)), (.int .i64 (0 : Int)), (.int .i64 (9 : Int)), (.int .u8 (91 : Int)), (.int .i64 (1 : Int)), (.str (⟨#[32, 32, 10]⟩ : ByteArray)), (.int .i64 (0 : Int)), (.int .i64 (9 : Int)), (.int .u8 (91 : Int)), (.int .i64 (2 : Int)), (.str (⟨#[32, 10]⟩ : ByteArray)), (.int .i64 (0 : Int)), (.int .i64 (9 : Int)), (.int .u8 (0 : Int)), (.int .i64 (1 : Int)), (.str (⟨#[32, 32]⟩ : ByteArray)), (.int .i64 (0 : Int)), (.int .i64 (9 : Int)), (.int .u8 (0 : Int)), (.int .i64 (1 : Int)), (.str (⟨#[32, 32, 32, 13, 10]⟩ : ByteArray)), (.int .i64 (1 : Int)), (.int .i64 (9 : Int)), (.int .u8 (91 : Int)), (.int .i64 (3 : Int)), (.str (⟨#[32, 32, 9, 10]⟩ : ByteArray)), (.int .i64 (0 : Int)), (.int .i64 (9 : Int)), (.int .u8 (0 : Int)), (.int .i64 (1 : Int)), (.str (⟨#[32, 32, 97, 10]⟩ : ByteArray)), (.int .i64 (0 : Int)), (.int .i64 (2 : Int)), (.int .u8 (0 : Int)), (.int .i64 (1 : Int)), (.str (⟨#[96, 96, 97, 96, 98, 96, 96]⟩ : ByteArray)), (.int .i64 (0 : Int)), (.int .i64 (99 : Int)), (.int .u8 (83 : Int)), (.int .i64 (7 : Int)), (.str (⟨#[96, 96, 97, 96]⟩ : ByteArray)), (.int .i64 (0 : Int)), (.int .i64 (99 : Int)), (.int .u8 (0 : Int)), (.int .i64 (2 : Int)), (.str (⟨#[96, 97, 96, 96, 32, 96]⟩ : ByteArray)), (.int .i64 (0 : Int)), (.int .i64 (99 : Int)), (.int .u8 (83 : Int)), (.int .i64 (6 : Int)), (.str (⟨#[96, 97, 96]⟩ : ByteArray)), (.int .i64 (0 : Int)), (.int .i64 (2 : Int)), (.int .u8 (0 : Int)), (.int .i64 (1 : Int)), (.str (⟨#[96, 96]⟩ : ByteArray)), (.int .i64 (0 : Int)), (.int .i64 (9 : Int)), (.int .u8 (0 : Int)), (.int .i64 (2 : Int)), (.str (⟨#[96, 96, 96]⟩ : ByteArray)), (.int .i64 (1 : Int)), (.int .i64 (9 : Int)), (.int .u8 (0 : Int)), (.int .i64 (3 : Int)), (.str (⟨#[96, 10, 96]⟩ : ByteArray)), (.int .i64 (0 : Int)), (.int .i64 (9 : Int)), (.int .u8 (0 : Int)), (.int .i64 (1 : Int)), (.str (⟨#[96, 92, 96]⟩ : ByteArray)), (.int .i64 (0 : Int)), (.int .i64 (9 : Int)), (.int .u8 (83 : Int)), (.int .i64 (3 : Int)), (.str (⟨#[60, 97, 98, 58, 99, 62]⟩ : ByteArray)), (.int .i64 (0 : Int)), (.int .i64 (9 : Int)), (.int .u8 (88 : Int)), (.int .i64 (6 : Int)), (.str (⟨#[60, 97, 58, 99, 62]⟩ : ByteArray)), (.int .i64 (0 : Int)), (.int .i64 (9 : Int)), (.int .u8 (0 : Int)), (.int .i64 (1 : Int)), (.str (⟨#[60, 97, 64, 98, 46, 99, 62]⟩ : ByteArray)), (.int .i64 (0 : Int)), (.int .i64 (9 : Int)), (.int .u8 (88 : Int)), (.int .i64 (7 : Int)), (.str (⟨#[60, 97, 64, 45, 98, 62]⟩ : ByteArray)), (.int .i64 (0 : Int)), (.int .i64 (9 : Int)), (.int .u8 (0 : Int)), (.int .i64 (1 : Int)), (.str (⟨#[60, 97, 32, 98, 58, 99, 62]⟩ : ByteArray)), (.int .i64 (0 : Int)), (.int .i64 (9 : Int)), (.int .u8 (0 : Int)), (.int .i64 (1 : Int)), (.str (⟨#[60, 97, 98, 58, 62]⟩ : ByteArray)), (.int .i64 (0 : Int)), (.int .i64 (9 : Int)), (.int .u8 (88 : Int)), (.int .i64 (5 : Int)), (.str (⟨#[60, 97, 98, 58, 99]⟩ : ByteArray)), (.int .i64 (0 : Int)), (.int .i64 (9 : Int)), (.int .u8 (0 : Int)), (.int .i64 (1 : Int)), (.str (⟨#[60, 97, 98, 58, 99, 62]⟩ : ByteArray)), (.int .i64 (0 : Int)), (.int .i64 (5 : Int)), (.int .u8 (0 : Int)), (.int .i64 (1 : Int)), (.str (⟨#[60, 49, 98, 58, 99, 62]⟩ : ByteArray)), (.int .i64 (0 : Int)), (.int .i64 (9 : Int)), (.int .u8 (0 : Int)), (.int .i64 (1 : Int)), (.str (⟨#[60, 97, 43, 46, 45, 49, 58, 99, 62]⟩ : ByteArray)), (.int .i64 (0 : Int)), (.int .i64 (9 : Int)), (.int .u8 (88 : Int)), (.int .i64 (9 : Int)), (.str (⟨#[60, 97, 98, 58, 99, 60, 100, 62]⟩ : ByteArray)), (.int .i64 (0 : Int)), (.int .i64 (9 : Int)), (.int .u8 (0 : Int)), (.int .i64 (1 : Int)), (.str (⟨#[60, 97, 98, 58, 127, 62]⟩ : ByteArray)), (.int .i64 (0 : Int)), (.int .i64 (9 : Int)), (.int .u8 (0 : Int)), (.int .i64 (1 : Int)), (.str (⟨#[60, 97, 98, 58, 128, 62]⟩ : ByteArray)), (.int .i64 (0 : Int)), (.int .i64 (9 : Int)), (.int .u8 (88 : Int)), (.int .i64 (6 : Int)), (.str (⟨#[60, 64, 98, 62]⟩ : ByteArray)), (.int .i64 (0 : Int)), (.int .i64 (9 : Int)), (.int .u8 (0 : Int)), (.int .i64 (1 : Int)), (.str (⟨#[60, 97, 64, 62]⟩ : ByteArray)), (.int .i64 (0 : Int)), (.int .i64 (9 : Int)), (.int .u8 (0 : Int)), (.int .i64 (1 : Int)), (.str (⟨#[60, 97, 64, 98, 46, 46, 99, 62]⟩ : ByteArray)), (.int .i64 (0 : Int)), (.int .i64 (9 : Int)), (.int .u8 (0 : Int)), (.int .i64 (1 : Int)), (.str (⟨#[60, 97, 64, 98, 45, 62]⟩ : ByteArray)), (.int .i64 (0 : Int)), (.int .i64 (9 : Int)), (.int .u8 (0 : Int)), (.int .i64 (1 : Int)), (.str (⟨#[60, 96, 126, 64, 48, 62]⟩ : ByteArray)), (.int .i64 (0 : Int)), (.int .i64 (9 : Int)), (.int .u8 (88 : Int)), (.int .i64 (6 : Int)), (.str (⟨#[60, 62]⟩ : ByteArray)), (.int .i64 (0 : Int)), (.int .i64 (9 : Int)), (.int .u8 (0 : Int)), (.int .i64 (1 : Int)), (.str (⟨#[60, 97, 44, 98, 64, 99, 62]⟩ : ByteArray)), (.int .i64 (0 : Int)), (.int .i64 (9 : Int)), (.int .u8 (0 : Int)), (.int .i64 (1 : Int)), (.str (⟨#[60, 97, 97, 97, 97, 97, 97, 97, 97, 97, 97, 97, 97, 97, 97, 97, 97, 97, 97, 97, 97, 97, 97, 97, 97, 97, 97, 97, 97, 97, 97, 97, 97, 58, 62]⟩ : ByteArray)), (.int .i64 (0 : Int)), (.int .i64 (99 : Int)), (.int .u8 (88 : Int)), (.int .i64 (35 : Int)), (.str (⟨#[60, 97, 97, 97, 97, 97, 97, 97, 97, 97, 97, 97, 97, 97, 97, 97, 97, 97, 97, 97, 97, 97, 97, 97, 97, 97, 97, 97, 97, 97, 97, 97, 97, 97, 58, 62]⟩ : ByteArray)), (.int .i64 (0 : Int)), (.int .i64 (99 : Int)), (.int .u8 (0 : Int)), (.int .i64 (1 : Int)), (.str (⟨#[60, 97, 64, 98, 98, 98, 98, 98, 98, 98, 98, 98, 98, 98, 98, 98, 98, 98, 98, 98, 98, 98, 98, 98, 98, 98, 98, 98, 98, 98, 98, 98, 98, 98, 98, 98, 98, 98, 98, 98, 98, 98, 98, 98, 98, 98, 98, 98, 98, 98, 98, 98, 98, 98, 98, 98, 98, 98, 98, 98, 98, 98, 98, 98, 98, 98, 62]⟩ : ByteArray)), (.int .i64 (0 : Int)), (.int .i64 (99 : Int)), (.int .u8 (88 : Int)), (.int .i64 (67 : Int)), (.str (⟨#[60, 97, 64, 98, 98, 98, 98, 98, 98, 98, 98, 98, 98, 98, 98, 98, 98, 98, 98, 98, 98, 98, 98, 98, 98, 98, 98, 98, 98, 98, 98, 98, 98, 98, 98, 98, 98, 98, 98, 98, 98, 98, 98, 98, 98, 98, 98, 98, 98, 98, 98, 98, 98, 98, 98, 98, 98, 98, 98, 98, 98, 98, 98, 98, 98, 98, 98, 62]⟩ : ByteArray)), (.int .i64 (0 : Int)), (.int .i64 (99 : Int)), (.int .u8 (0 : Int)), (.int .i64 (1 : Int)), (.str (⟨#[38, 97, 109, 112, 59]⟩ : ByteArray)), (.int .i64 (0 : Int)), (.int .i64 (9 : Int)), (.int .u8 (89 : Int)), (.int .i64 (5 : Int)), (.str (⟨#[38, 35, 49, 50, 59]⟩ : ByteArray)), (.int .i64 (0 : Int)), (.int .i64 (9 : Int)), (.int .u8 (89 : Int)), (.int .i64 (5 : Int)), (.str (⟨#[38, 35, 120, 65, 102, 59]⟩ : ByteArray)), (.int .i64 (0 : Int)), (.int .i64 (9 : Int)), (.int .u8 (89 : Int)), (.int .i64 (6 : Int)), (.str (⟨#[38, 102, 111, 111, 59]⟩ : ByteArray)), (.int .i64 (0 : Int)), (.int .i64 (9 : Int)), (.int .u8 (0 : Int)), (.int .i64 (1 : Int)), (.str (⟨#[38, 35, 49, 50, 51, 52, 53, 54, 55, 56, 59]⟩ : ByteArray)), (.int .i64 (0 : Int)), (.int .i64 (99 : Int)), (.int .u8 (0 : Int)), (.int .i64 (1 : Int)), (.str (⟨#[38, 35, 49, 50, 51, 52, 53, 54, 55, 59]⟩ : ByteArray)), (.int .i64 (0 : Int)), (.int .i64 (99 : Int)), (.int .u8 (89 : Int)), (.int .i64 (10 : Int)), (.str (⟨#[38, 35, 120, 49, 50, 51, 52, 53, 54, 55, 59]⟩ : ByteArray)), (.int .i64 (0 : Int)), (.int .i64 (99 : Int)), (.int .u8 (0 : Int)), (.int .i64 (1 : Int)), (.str (⟨#[38, 35, 88, 49, 50, 51, 52, 53, 54, 59]⟩ : ByteArray)), (.int .i64 (0 : Int)), (.int .i64 (99 : Int)), (.int .u8 (89 : Int)), (.int .i64 (10 : Int)), (.str (⟨#[38, 59]⟩ : ByteArray)), (.int .i64 (0 : Int)), (.int .i64 (9 : Int)), (.int .u8 (0 : Int)), (.int .i64 (1 : Int)), (.str (⟨#[38, 35, 59]⟩ : ByteArray)), (.int .i64 (0 : Int)), (.int .i64 (9 : Int)), (.int .u8 (0 : Int)), (.int .i64 (1 : Int)), (.str (⟨#[38, 35, 120, 59]⟩ : ByteArray)), (.int .i64 (0 : Int)), (.int .i64 (9 : Int)), (.int .u8 (0 : Int)), (.int .i64 (1 : Int)), (.str (⟨#[38, 108, 116]⟩ : ByteArray)), (.int .i64 (0 : Int)), (.int .i64 (9 : Int)), (.int .u8 (0 : Int)), (.int .i64 (1 : Int)), (.str (⟨#[38, 97, 109, 112, 32, 108, 116, 59]⟩ : ByteArray)), (.int .i64 (0 : Int)), (.int .i64 (9 : Int)), (.int .u8 (0 : Int)), (.int .i64 (1 : Int)), (.str (⟨#[38, 65, 109, 112, 59]⟩ : ByteArray)), (.int .i64 (0 : Int)), (.int .i64 (9 : Int)), (.int .u8 (0 : Int)), (.int .i64 (1 : Int)), (.str (⟨#[38, 35, 120, 103, 59]⟩ : ByteArray)), (.int .i64 (0 : Int)), (.int .i64 (9 : Int)), (.int .u8 (0 : Int)), (.int .i64 (1 : Int)), (.str (⟨#[38, 104, 101, 108, 108, 105, 112, 59]⟩ : ByteArray)), (.int .i64 (0 : Int)), (.int .i64 (8 : Int)), (.int .u8 (89 : Int)), (.int .i64 (8 : Int)), (.str (⟨#[38, 104, 101, 108, 108, 105, 112, 59]⟩ : ByteArray)), (.int .i64 (0 : Int)), (.int .i64 (7 : Int)), (.int .u8 (0 : Int)), (.int .i64 (1 : Int)), (.str (⟨#[97]⟩ : ByteArray)), (.int .i64 (0 : Int)), (.int .i64 (9 : Int)), (.int .u8 (0 : Int)), (.int .i64 (1 : Int)), (.str (⟨#[97]⟩ : ByteArray)), (.int .i64 (1 : Int)), (.int .i64 (9 : Int)), (.int .u8 (0 : Int)), (.int .i64 (0 : Int)), (.str (⟨#[97]⟩ : ByteArray)), (.int .i64 (-1 : Int)), (.int .i64 (9 : Int)), (.int .u8 (0 : Int)), (.int .i64 (0 : Int)), (.str (⟨#[97]⟩ : ByteArray)), (.int .i64 (0 : Int)), (.int .i64 (0 : Int)), (.int .u8 (0 : Int)), (.int .i64 (0 : Int)), (.str (⟨#[97]⟩ : ByteArray)), (.int .i64 (0 : Int)), (.int .i64 (-5 : Int)), (.int .u8 (0 : Int)), (.int .i64 (0 : Int))], 37⟩), some (.exact ⟨[(.str (⟨#[97, 109, 112]⟩ : ByteArray)), (.str (⟨#[108, 116]⟩ : ByteArray)), (.str (⟨#[103, 116]⟩ : ByteArray)), (.str (⟨#[113, 117, 111, 116]⟩ : ByteArray)), (.str (⟨#[110, 98, 115, 112]⟩ : ByteArray)), (.str (⟨#[99, 111, 112, 121]⟩ : ByteArray)), (.str (⟨#[114, 101, 103]⟩ : ByteArray)), (.str (⟨#[104, 101, 108, 108, 105, 112]⟩ : ByteArray)), (.str (⟨#[109, 100, 97, 115, 104]⟩ : ByteArray)), (.str (⟨#[110, 100, 97, 115, 104]⟩ : ByteArray))], 9⟩)]
noncomputable def S1 (i : Nat) : Env := envOf 228 [(6, (.slice 2 0 10 10)), (7, .int .i64 (i : Int))]
noncomputable def body1 : Code := loopNo Tryd.f8 1
def ks1 : List Nat := [6, 7]
theorem round1_0 : execM T8 300 ks1 body1 (S1 0) m1 ⟨true, [], ((kRead.drop 67).take 2).map Row.res, []⟩ = some (.normal, S1 1, m1, ((kRead.drop 67).take 2).map Row.cst) := by kernel_rfl
theorem round1_1 : execM T8 300 ks1 body1 (S1 1) m1 ⟨true, [], ((kRead.drop 69).take 2).map Row.res, []⟩ = some (.normal, S1 2, m1, ((kRead.drop 69).take 2).map Row.cst) := by kernel_rfl
theorem round1_2 : execM T8 300 ks1 body1 (S1 2) m1 ⟨true, [], ((kRead.drop 71).take 2).map Row.res, []⟩ = some (.normal, S1 3, m1, ((kRead.drop 71).take 2).map Row.cst) := by kernel_rfl
theorem round1_3 : execM T8 300 ks1 body1 (S1 3) m1 ⟨true, [], ((kRead.drop 73).take 2).map Row.res, []⟩ = some (.normal, S1 4, m1, ((kRead.drop 73).take 2).map Row.cst) := by kernel_rfl
theorem round1_4 : execM T8 300 ks1 body1 (S1 4) m1 ⟨true, [], ((kRead.drop 75).take 2).map Row.res, []⟩ = some (.normal, S1 5, m1, ((kRead.drop 75).take 2).map Row.cst) := by kernel_rfl
theorem round1_5 : execM T8 300 ks1 body1 (S1 5) m1 ⟨true, [], ((kRead.drop 77).take 2).map Row.res, []⟩ = some (.normal, S1 6, m1, ((kRead.drop 77).take 2).map Row.cst) := by kernel_rfl
theorem round1_6 : execM T8 300 ks1 body1 (S1 6) m1 ⟨true, [], ((kRead.drop 79).take 2).map Row.res, []⟩ = some (.normal, S1 7, m1, ((kRead.drop 79).take 2).map Row.cst) := by kernel_rfl
theorem round1_7 : execM T8 300 ks1 body1 (S1 7) m1 ⟨true, [], ((kRead.drop 81).take 2).map Row.res, []⟩ = some (.normal, S1 8, m1, ((kRead.drop 81).take 2).map Row.cst) := by kernel_rfl
theorem round1_8 : execM T8 300 ks1 body1 (S1 8) m1 ⟨true, [], ((kRead.drop 83).take 2).map Row.res, []⟩ = some (.normal, S1 9, m1, ((kRead.drop 83).take 2).map Row.cst) := by kernel_rfl
theorem round1_9 : execM T8 300 ks1 body1 (S1 9) m1 ⟨true, [], ((kRead.drop 85).take 2).map Row.res, []⟩ = some (.normal, S1 10, m1, ((kRead.drop 85).take 2).map Row.cst) := by kernel_rfl
theorem end1 : execM T8 300 ks1 body1 (S1 10) m1 ⟨true, [], [], []⟩ = some (.exit 2, S1 10, m1, []) := by kernel_rfl
theorem part_holds1 (w : World) (hM : Mx w) (a b : Nat) : Holds Tryd.prog w (((kRead.drop a).take b).map Row.cst) := fun c hc => by
  obtain ⟨r, hr, rfl⟩ := List.mem_map.1 hc
  exact read_one w hM r (List.mem_of_mem_drop (List.mem_of_mem_take hr))
theorem loop1 (w : World) (hM : Mx w) : CodeOK Tryd.prog w (.loop body1) (S1 0) m1 (.exit 2) (S1 10) m1 :=
  loop_rule (S := S1) (M := fun _ => m1) (N := 10) (fun h => by cases h) (fun k hk => match k with
    | 0 => execM_den prog_ok8 round1_0 (part_holds1 w hM _ _)
    | 1 => execM_den prog_ok8 round1_1 (part_holds1 w hM _ _)
    | 2 => execM_den prog_ok8 round1_2 (part_holds1 w hM _ _)
    | 3 => execM_den prog_ok8 round1_3 (part_holds1 w hM _ _)
    | 4 => execM_den prog_ok8 round1_4 (part_holds1 w hM _ _)
    | 5 => execM_den prog_ok8 round1_5 (part_holds1 w hM _ _)
    | 6 => execM_den prog_ok8 round1_6 (part_holds1 w hM _ _)
    | 7 => execM_den prog_ok8 round1_7 (part_holds1 w hM _ _)
    | 8 => execM_den prog_ok8 round1_8 (part_holds1 w hM _ _)
    | 9 => execM_den prog_ok8 round1_9 (part_holds1 w hM _ _)
    | n + 10 => absurd hk (by omega)) (execM_den prog_ok8 end1 holds_nil)
noncomputable def known_orc : Orc := ⟨true, [], kMany.map (fun r => AV.str r.2.2) ++ (kSpans.map (fun _ => AV.nils) ++ [.bool true]), [some ⟨ks0, .exit 0, S0 67, m0⟩, some ⟨ks1, .exit 2, S1 10, m1⟩]⟩
noncomputable def known_csts : List Cst := kMany.map Mrow.cst ++ (.code (.loop body0) (S0 0) m0 (.exit 0) (S0 67) m0 :: .code (.loop body1) (S1 0) m1 (.exit 2) (S1 10) m1 :: (kSpans.map Srow.cst ++ [Cst.call 11 [] (.bool true)]))
theorem known_run : runA T8 Tryd.f8 100000 [] known_orc = some (.bool true, known_csts) := by kernel_rfl
theorem known_holds (w : World) (hM : Mx w) : Holds Tryd.prog w known_csts := by
  refine holds_append (fun c hc => ?_) (holds_cons (loop0 w hM) (holds_cons (loop1 w hM) (holds_append (fun c hc => ?_) (fun c hc => ?_))))
  · obtain ⟨r, hr, rfl⟩ := List.mem_map.1 hc
    exact many_one r (many_all r hr) w
  · obtain ⟨r, hr, rfl⟩ := List.mem_map.1 hc
    exact ⟨⟨_, Tryd.func13, by kernel_rfl, by kernel_rfl⟩, fun B W hB => mdcode_Spans.calls_nil 60 r.1 r.2.1 r.2.2 W (hM.below hB) (spans_all r hr)⟩
  · obtain rfl := List.mem_singleton.1 hc
    obtain ⟨k, hk⟩ := Pure.reads_now.rounds
    exact ⟨⟨_, Tryd.func11, by kernel_rfl, by kernel_rfl⟩, fun B W hB => indenturelaw20_reads.calls k true W (hM.below hB) hk⟩
theorem MdcodeKnown_walk (w : World) (hM : Mx w) : Calls Tryd.prog 8 #[] w fun e w' => e = .returned (.bool true) ∧ Below w.heap.size w w' := runA_den prog_ok8 Tryd.func8 known_run (known_holds w hM) (fun _ => 0)
end Go.Proofs.YtodgioleaegpfaaDoor.Am
