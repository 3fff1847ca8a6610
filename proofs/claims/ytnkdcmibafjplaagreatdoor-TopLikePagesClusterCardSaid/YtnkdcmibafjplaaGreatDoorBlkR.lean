/-
  A known block over an alloc and over a store into another block. No condition.
-/
import Derived.Test.YtnkdcmibafjplaaGreatDoorBase
namespace Go.Proofs.YtnkdcmibafjplaaGreatDoor
open Go.RowKit

theorem Blk.allocR {w : World} {g : Nat} {t : TypeId} {cs : List Value} (h : Blk w g t cs) (o : Obj) : Blk (w.alloc o) g t cs := (Below.heap_alloc w o g h.lt).trans h
theorem Blk.setR {w : World} {g g' i : Nat} {t : TypeId} {cs : List Value} (h : Blk w g t cs) (hne : g ≠ g') (v : Value) : Blk (w.setCell ⟨g', i, none⟩ v) g t cs := (Below.heap_setCell _ _ _ g hne).trans h
theorem Blk.drewR {w : World} {g : Nat} {t : TypeId} {cs : List Value} (h : Blk w g t cs) (n : Nat) : Blk (w.drewN n) g t cs := h
end Go.Proofs.YtnkdcmibafjplaaGreatDoor
