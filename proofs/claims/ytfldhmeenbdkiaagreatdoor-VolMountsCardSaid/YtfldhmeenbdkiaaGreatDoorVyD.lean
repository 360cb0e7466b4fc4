/- Acts of layer 8, as they lie in a row. -/
import Derived.Test.YtfldhmeenbdkiaaGreatDoorMA
namespace Go.Proofs.YtfldhmeenbdkiaaGreatDoor
open Go.ChangeShapes Go.WideShapes Go.ChangeAt Go.RowKit Go.Deep

structure ActV where
  kind : Int
  n : Int
  off : Int
  many : Int
  s : ByteArray
def cellsV (a : ActV) : List Value := [.int .i64 a.kind, .int .i64 a.n, .int .i64 a.off, .int .i64 a.many, .string a.s]
def flatV (l : List ActV) : List Value := l.flatMap cellsV

theorem flatV_get {l : List ActV} {k : Nat} {a : ActV} (h : l[k]? = some a) (j : Nat) (hj : j < 5) : (flatV l)[k * 5 + j]? = (cellsV a)[j]? := by
  induction l generalizing k with
  | nil => simp at h
  | cons y l ih =>
    cases k with
    | zero =>
      simp at h; subst h
      show (cellsV y ++ flatV l)[0 * 5 + j]? = _
      rw [Nat.zero_mul, Nat.zero_add, List.getElem?_append_left (by simpa [cellsV] using hj)]
    | succ k =>
      show (cellsV y ++ flatV l)[(k + 1) * 5 + j]? = _
      rw [List.getElem?_append_right (by simp [cellsV]; omega), show (k + 1) * 5 + j - (cellsV y).length = k * 5 + j by simp [cellsV]; omega]
      exact ih (by simpa using h)
theorem flatV_length (l : List ActV) : (flatV l).length = l.length * 5 := by
  induction l with
  | nil => rfl
  | cons x l ih =>
    show (cellsV x ++ flatV l).length = _
    rw [List.length_append, ih]
    simp [cellsV]; omega

/-- An act of a row of acts that came in, as it lies in a later world. -/
theorem actv_cells {w wr : World} {ao : Option Addr} {n c : Nat} {acts : List ActV} (h : Srcs w (.slice ao n c) acts.length 5 (flatV acts)) (hf : Fr Nob w wr) {k : Nat} {a : ActV} (hk : acts[k]? = some a) :
    ∃ g off, ao = some ⟨g, off, none⟩ ∧ wr.cell? ⟨g, off + k * 5, none⟩ = some (.int .i64 a.kind) ∧ wr.cell? ⟨g, off + k * 5 + 1, none⟩ = some (.int .i64 a.n) ∧
      wr.cell? ⟨g, off + k * 5 + 2, none⟩ = some (.int .i64 a.off) ∧ wr.cell? ⟨g, off + k * 5 + 3, none⟩ = some (.int .i64 a.many) ∧ wr.cell? ⟨g, off + k * 5 + 4, none⟩ = some (.string a.s) := by
  obtain ⟨g, off, rfl, c0⟩ := h.at (flatV_get hk 0 (by omega))
  obtain ⟨g1, o1, e1, c1⟩ := h.at (flatV_get hk 1 (by omega))
  obtain ⟨g2, o2, e2, c2⟩ := h.at (flatV_get hk 2 (by omega))
  obtain ⟨g3, o3, e3, c3⟩ := h.at (flatV_get hk 3 (by omega))
  obtain ⟨g4, o4, e4, c4⟩ := h.at (flatV_get hk 4 (by omega))
  simp only [Option.some.injEq, Addr.mk.injEq, and_true] at e1 e2 e3 e4
  obtain ⟨rfl, rfl⟩ := e1
  obtain ⟨rfl, rfl⟩ := e2
  obtain ⟨rfl, rfl⟩ := e3
  obtain ⟨rfl, rfl⟩ := e4
  exact ⟨g, off, rfl, hf.cell c0 (fun h => h), hf.cell c1 (fun h => h), hf.cell c2 (fun h => h), hf.cell c3 (fun h => h), hf.cell c4 (fun h => h)⟩
end Go.Proofs.YtfldhmeenbdkiaaGreatDoor
