/- The laws with an edit among their parameters, with the hypotheses that a row gives: integers of their kind, texts of at most 2^47 - 4096 bytes. -/
import Derived.Test.YtedbgikpblbpcaaPureE
namespace Go.Proofs.Ytedbgikpblbpcaa.Pure
open Go.RowKit Go.Proofs.Ytedbgikpblbpcaa.P
theorem int_le {x : Int} (h : (Lit.int .i64 x).wf = true) : x ≤ 9223372036854775807 := by
  simp [Lit.wf, IntKind.min, IntKind.max, IntKind.signed, IntKind.bits] at h; omega
theorem rowApplies (a0 : Int) (a1 : ByteArray) (p d : Int) (ins : ByteArray) (h0 : (Lit.int .i64 a0).wf = true) (h1 : a1.size ≤ 140737488351232) (_h2 : (Lit.int .i64 p).wf = true) (_h3 : (Lit.int .i64 d).wf = true) : ∃ k, indenturelaw04_EditApplies.f k a0 a1 p d ins = some true :=
  EditApplies a0 a1 p d ins (int_le h0) h1
theorem rowStays (a0 : ByteArray) (p d : Int) (ins : ByteArray) (x y : Int) (h1 : a0.size ≤ 140737488351232) (_h2 : (Lit.int .i64 p).wf = true) (_h3 : (Lit.int .i64 d).wf = true) (_h4 : (Lit.int .i64 x).wf = true) (_h5 : (Lit.int .i64 y).wf = true) : ∃ k, indenturelaw04_EditStays.f k a0 p d ins x y = some true :=
  EditStays a0 p d ins x y h1
theorem rowMoves (a0 : ByteArray) (p d : Int) (ins : ByteArray) (x : Int) (h1 : a0.size ≤ 140737488351232) (_h2 : (Lit.int .i64 p).wf = true) (_h3 : (Lit.int .i64 d).wf = true) (_h4 : (Lit.int .i64 x).wf = true) : ∃ k, indenturelaw04_EditMoves.f k a0 p d ins x = some true :=
  EditMoves a0 p d ins x h1
theorem rowBack (a0 : ByteArray) (p d : Int) (ins : ByteArray) (h1 : a0.size ≤ 140737488351232) (_h2 : (Lit.int .i64 p).wf = true) (_h3 : (Lit.int .i64 d).wf = true) : ∃ k, indenturelaw04_EditBack.f k a0 p d ins = some true :=
  EditBack a0 p d ins h1
end Go.Proofs.Ytedbgikpblbpcaa.Pure
