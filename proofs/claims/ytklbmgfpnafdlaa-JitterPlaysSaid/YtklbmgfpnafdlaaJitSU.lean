/- A map of uint32 copied: the walk. -/
import Derived.Test.YtklbmgfpnafdlaaJitC
import Derived.Shelf.SlMaps.Clone
namespace Go.Proofs.Ytklbmgfpnafdlaa
open Go Go.RowKit Go.Shelf

def rhoCl : Ren := ⟨fun n => match n with | 5 => 43 | 7 => 59 | n => n, fun n => match n with | 4 => 4 | 3 => 29 | 20 => 20 | 23 => 63 | 25 => 22 | n => n, fun n => n⟩
set_option maxRecDepth 1000000 in
theorem laysCl : SlLaysW.n5 Try.prog rhoCl := by
  constructor <;> first | exact mixed | exact ⟨"maps.Clone[map[uint64]uint32,uint64,uint32]", by kernel_rfl, by kernel_rfl⟩ | kernel_rfl | (intro w; kernel_rfl) | exact ⟨"maps.Clone[map[uint64]uint32,uint64,uint32]", by kernel_rfl, by kernel_rfl⟩
theorem cloneU_any (b : Nat) (m : List (Int × Value)) (w : World) (hw : OK w (fpL [roR (mapR (Value.int .u64) vI b m)]) [roR (mapR (Value.int .u64) vI b m)] w) :
    Fn Try.prog 43 [.map (some b)] [roR (mapR (Value.int .u64) vI b m)] w (fun _ : Nat => True) (fun x => .map (some x)) (fun x => [mapR (Value.int .u64) vI x m]) := by
  obtain ⟨es, clock, h1, h2, h3⟩ := hw.all _ (List.mem_singleton.2 rfl)
  have h : Calls Try.prog 43 #[.map (some b)] w fun e w' => e = .returned (.map (some w.heap.size)) ∧ w' = w.alloc (.map es clock) := AnyW.maps_Clone laysCl b es clock w h1
  refine h.mono ?_
  rintro e w' ⟨rfl, rfl⟩
  refine ⟨w.heap.size, trivial, rfl, OK.one (Chg.alloc _ _ _) ⟨es, clock, World.alloc_heap_new w _, h2, h3⟩ (fun k hk hlt => ?_) (fun k hk hlt => ?_)⟩ <;> (cases hk; omega)
end Go.Proofs.Ytklbmgfpnafdlaa
