/- Facts on the types and functions of the program, each closed. -/
import Derived.Test.YtklbmgfpnafdlaaProg
import Derived.Test.YtklbmgfpnafdlaaLibW
namespace Go.Proofs.Ytklbmgfpnafdlaa
open Go Go.RowKit
theorem mixed : Try.prog.follows .mixedOrders = true := by kernel_rfl
theorem un3 : Try.prog.underlying 3 = some (.int .i64) := Try.underlying3
theorem on3 : isOne Try.prog 3 = true := by kernel_rfl
theorem sz3 : (Try.prog.info? 3).map (·.size) = some 1 := by kernel_rfl
theorem zr3 : (Try.prog.info? 3).map (·.zero) = some (some (.int .i64 0 : Value)) := by kernel_rfl
theorem un4 : Try.prog.underlying 4 = some (.bool) := Try.underlying4
theorem on4 : isOne Try.prog 4 = true := by kernel_rfl
theorem sz4 : (Try.prog.info? 4).map (·.size) = some 1 := by kernel_rfl
theorem zr4 : (Try.prog.info? 4).map (·.zero) = some (some (.bool false : Value)) := by kernel_rfl
theorem un5 : Try.prog.underlying 5 = some (.int .u8) := Try.underlying5
theorem on5 : isOne Try.prog 5 = true := by kernel_rfl
theorem sz5 : (Try.prog.info? 5).map (·.size) = some 1 := by kernel_rfl
theorem un22 : Try.prog.underlying 22 = some (.int .u64) := Try.underlying22
theorem on22 : isOne Try.prog 22 = true := by kernel_rfl
theorem sz22 : (Try.prog.info? 22).map (·.size) = some 1 := by kernel_rfl
theorem zr22 : (Try.prog.info? 22).map (·.zero) = some (some (.int .u64 0 : Value)) := by kernel_rfl
theorem zs22 : (Try.prog.info? 22).map (fun i => (i.zero, i.size)) = some (some (.int .u64 0 : Value), 1) := by kernel_rfl
theorem un23 : Try.prog.underlying 23 = some (.slice 37) := Try.underlying23
theorem un25 : Try.prog.underlying 25 = some (.pointer 97) := Try.underlying25
theorem on25 : isOne Try.prog 25 = true := by kernel_rfl
theorem on29 : isOne Try.prog 29 = true := by kernel_rfl
theorem on31 : isOne Try.prog 31 = true := by kernel_rfl
theorem sz31 : (Try.prog.info? 31).map (·.size) = some 1 := by kernel_rfl
theorem zr31 : (Try.prog.info? 31).map (·.zero) = some (some (.pointer none : Value)) := by kernel_rfl
theorem un32 : Try.prog.underlying 32 = some (.slice 46) := Try.underlying32
theorem on32 : isOne Try.prog 32 = true := by kernel_rfl
theorem sz32 : (Try.prog.info? 32).map (·.size) = some 1 := by kernel_rfl
theorem un33 : Try.prog.underlying 33 = some (.array 6 22) := Try.underlying33
theorem ag33 : aggB Try.prog 33 6 = true := by kernel_rfl
theorem sz33 : (Try.prog.info? 33).map (·.size) = some 6 := by kernel_rfl
theorem zr33 : (Try.prog.info? 33).map (·.zero) = some (some (.agg #[.int .u64 0, .int .u64 0, .int .u64 0, .int .u64 0, .int .u64 0, .int .u64 0] : Value)) := by kernel_rfl
theorem fo35_0 : fieldOff Try.prog 35 0 = some 0 := by kernel_rfl
theorem fo35_1 : fieldOff Try.prog 35 1 = some 1 := by kernel_rfl
theorem fo35_2 : fieldOff Try.prog 35 2 = some 2 := by kernel_rfl
theorem fo35_3 : fieldOff Try.prog 35 3 = some 3 := by kernel_rfl
theorem fo35_4 : fieldOff Try.prog 35 4 = some 4 := by kernel_rfl
theorem fo35_5 : fieldOff Try.prog 35 5 = some 5 := by kernel_rfl
theorem fo35_6 : fieldOff Try.prog 35 6 = some 6 := by kernel_rfl
theorem fo35_7 : fieldOff Try.prog 35 7 = some 7 := by kernel_rfl
theorem fo35_8 : fieldOff Try.prog 35 8 = some 8 := by kernel_rfl
theorem sz37 : (Try.prog.info? 37).map (·.size) = some 5 := by kernel_rfl
theorem fo37_0 : fieldOff Try.prog 37 0 = some 0 := by kernel_rfl
theorem fo37_1 : fieldOff Try.prog 37 1 = some 1 := by kernel_rfl
theorem fo37_2 : fieldOff Try.prog 37 2 = some 2 := by kernel_rfl
theorem fo37_3 : fieldOff Try.prog 37 3 = some 3 := by kernel_rfl
theorem fo37_4 : fieldOff Try.prog 37 4 = some 4 := by kernel_rfl
theorem zr37 : (Try.prog.info? 37).map (·.zero) = some (some (.agg #[.int .u8 0, .int .u64 0, .int .u64 0, .int .u32 0, .int .i64 0] : Value)) := by kernel_rfl
theorem ag46 : aggB Try.prog 46 2 = true := by kernel_rfl
theorem sz46 : (Try.prog.info? 46).map (·.size) = some 2 := by kernel_rfl
theorem fo46_0 : fieldOff Try.prog 46 0 = some 0 := by kernel_rfl
theorem fo46_1 : fieldOff Try.prog 46 1 = some 1 := by kernel_rfl
theorem zs46 : (Try.prog.info? 46).map (fun i => (i.zero, i.size)) = some (some (.agg #[.int .u64 0, .int .u32 0] : Value), 2) := by kernel_rfl
theorem un52 : Try.prog.underlying 52 = some (.slice 5) := Try.underlying52
theorem un53 : Try.prog.underlying 53 = some (.pointer 111) := Try.underlying53
theorem un56 : Try.prog.underlying 56 = some (.map 22 58) := Try.underlying56
theorem sz58 : (Try.prog.info? 58).map (·.size) = some 0 := by kernel_rfl
theorem un63 : Try.prog.underlying 63 = some (.map 22 29) := Try.underlying63
theorem on63 : isOne Try.prog 63 = true := by kernel_rfl
theorem sz63 : (Try.prog.info? 63).map (·.size) = some 1 := by kernel_rfl
theorem zr63 : (Try.prog.info? 63).map (·.zero) = some (some (.map none : Value)) := by kernel_rfl
theorem ag66 : aggB Try.prog 66 6 = true := by kernel_rfl
theorem sz66 : (Try.prog.info? 66).map (·.size) = some 6 := by kernel_rfl
theorem fo66_0 : fieldOff Try.prog 66 0 = some 0 := by kernel_rfl
theorem fo66_1 : fieldOff Try.prog 66 1 = some 1 := by kernel_rfl
theorem fo66_2 : fieldOff Try.prog 66 2 = some 2 := by kernel_rfl
theorem fo66_3 : fieldOff Try.prog 66 3 = some 3 := by kernel_rfl
theorem fo66_4 : fieldOff Try.prog 66 4 = some 4 := by kernel_rfl
theorem fo66_5 : fieldOff Try.prog 66 5 = some 5 := by kernel_rfl
theorem zr66 : (Try.prog.info? 66).map (·.zero) = some (some (.agg #[.int .u64 0, .int .u64 0, .int .u64 0, .int .u64 0, .int .u64 0, .int .u64 0] : Value)) := by kernel_rfl
theorem un68 : Try.prog.underlying 68 = some (.slice 73) := Try.underlying68
theorem un69 : Try.prog.underlying 69 = some (.pointer 115) := Try.underlying69
theorem on69 : isOne Try.prog 69 = true := by kernel_rfl
theorem sz69 : (Try.prog.info? 69).map (·.size) = some 1 := by kernel_rfl
theorem zr69 : (Try.prog.info? 69).map (·.zero) = some (some (.pointer none : Value)) := by kernel_rfl
theorem un73 : Try.prog.underlying 73 = some (.int .u16) := Try.underlying73
theorem on73 : isOne Try.prog 73 = true := by kernel_rfl
theorem sz73 : (Try.prog.info? 73).map (·.size) = some 1 := by kernel_rfl
theorem un80 : Try.prog.underlying 80 = some (.pointer 118) := Try.underlying80
theorem un86 : Try.prog.underlying 86 = some (.pointer 122) := Try.underlying86
theorem on86 : isOne Try.prog 86 = true := by kernel_rfl
theorem fo97_0 : fieldOff Try.prog 97 0 = some 0 := by kernel_rfl
theorem fo97_1 : fieldOff Try.prog 97 1 = some 1 := by kernel_rfl
theorem fo97_2 : fieldOff Try.prog 97 2 = some 2 := by kernel_rfl
theorem fo97_3 : fieldOff Try.prog 97 3 = some 3 := by kernel_rfl
theorem fo97_4 : fieldOff Try.prog 97 4 = some 4 := by kernel_rfl
theorem fo97_5 : fieldOff Try.prog 97 5 = some 5 := by kernel_rfl
theorem fo97_6 : fieldOff Try.prog 97 6 = some 6 := by kernel_rfl
theorem fo97_7 : fieldOff Try.prog 97 7 = some 7 := by kernel_rfl
theorem fo97_8 : fieldOff Try.prog 97 8 = some 8 := by kernel_rfl
theorem on100 : isOne Try.prog 100 = true := by kernel_rfl
theorem un105 : Try.prog.underlying 105 = some (.slice 22) := Try.underlying105
theorem on105 : isOne Try.prog 105 = true := by kernel_rfl
theorem sz105 : (Try.prog.info? 105).map (·.size) = some 1 := by kernel_rfl
theorem un109 : Try.prog.underlying 109 = some (.map 22 5) := Try.underlying109
theorem on109 : isOne Try.prog 109 = true := by kernel_rfl
theorem fo111_0 : fieldOff Try.prog 111 0 = some 0 := by kernel_rfl
theorem fo111_1 : fieldOff Try.prog 111 1 = some 1 := by kernel_rfl
theorem fo111_2 : fieldOff Try.prog 111 2 = some 2 := by kernel_rfl
theorem fo111_3 : fieldOff Try.prog 111 3 = some 3 := by kernel_rfl
theorem fo111_4 : fieldOff Try.prog 111 4 = some 4 := by kernel_rfl
theorem fo111_5 : fieldOff Try.prog 111 5 = some 5 := by kernel_rfl
theorem fo111_6 : fieldOff Try.prog 111 6 = some 6 := by kernel_rfl
theorem fo111_7 : fieldOff Try.prog 111 7 = some 7 := by kernel_rfl
theorem fo111_8 : fieldOff Try.prog 111 8 = some 8 := by kernel_rfl
theorem un113 : Try.prog.underlying 113 = some (.map 22 22) := Try.underlying113
theorem on113 : isOne Try.prog 113 = true := by kernel_rfl
theorem fo115_0 : fieldOff Try.prog 115 0 = some 0 := by kernel_rfl
theorem fo115_1 : fieldOff Try.prog 115 1 = some 1 := by kernel_rfl
theorem fo115_2 : fieldOff Try.prog 115 2 = some 2 := by kernel_rfl
theorem fo115_3 : fieldOff Try.prog 115 3 = some 3 := by kernel_rfl
theorem fo115_4 : fieldOff Try.prog 115 4 = some 4 := by kernel_rfl
theorem fo115_5 : fieldOff Try.prog 115 5 = some 5 := by kernel_rfl
theorem fo115_6 : fieldOff Try.prog 115 6 = some 6 := by kernel_rfl
theorem fo115_7 : fieldOff Try.prog 115 7 = some 7 := by kernel_rfl
theorem fo115_8 : fieldOff Try.prog 115 8 = some 8 := by kernel_rfl
theorem un116 : Try.prog.underlying 116 = some (.map 22 9) := Try.underlying116
theorem on116 : isOne Try.prog 116 = true := by kernel_rfl
theorem fo118_0 : fieldOff Try.prog 118 0 = some 0 := by kernel_rfl
theorem fo118_1 : fieldOff Try.prog 118 1 = some 1 := by kernel_rfl
theorem fo118_2 : fieldOff Try.prog 118 2 = some 2 := by kernel_rfl
theorem fo118_3 : fieldOff Try.prog 118 3 = some 3 := by kernel_rfl
theorem fo118_4 : fieldOff Try.prog 118 4 = some 4 := by kernel_rfl
theorem fo118_5 : fieldOff Try.prog 118 5 = some 5 := by kernel_rfl
theorem fo118_6 : fieldOff Try.prog 118 6 = some 6 := by kernel_rfl
theorem fo118_7 : fieldOff Try.prog 118 7 = some 7 := by kernel_rfl
theorem fo118_8 : fieldOff Try.prog 118 8 = some 8 := by kernel_rfl
theorem un135 : Try.prog.underlying 135 = some (.int .u64) := Try.underlying135
theorem un145 : Try.prog.underlying 145 = some (.int .u64) := Try.underlying145
theorem on145 : isOne Try.prog 145 = true := by kernel_rfl
theorem sz145 : (Try.prog.info? 145).map (·.size) = some 1 := by kernel_rfl
theorem zr145 : (Try.prog.info? 145).map (·.zero) = some (some (.int .u64 0 : Value)) := by kernel_rfl
theorem zb32_46 : (Try.prog.info? 46).map (fun i => (i.zero, i.size, i.bytes)) = some (some (.agg #[.int .u64 0, .int .u32 0] : Value), 2, 16) := by kernel_rfl
theorem sl32 : SlT Try.prog 32 46 (.agg #[.int .u64 0, .int .u32 0] : Value) 2 16 := SlT.mk' un32 zb32_46 rfl (by decide)
theorem zb105_22 : (Try.prog.info? 22).map (fun i => (i.zero, i.size, i.bytes)) = some (some (.int .u64 0 : Value), 1, 8) := by kernel_rfl
theorem sl105 : SlT Try.prog 105 22 (.int .u64 0 : Value) 1 8 := SlT.mk' un105 zb105_22 rfl (by decide)
theorem en7 : ∀ args w, (callFunc 7 args).run Try.prog w = .ok (.enter 7 args) w := enters Try.func7 (by kernel_rfl) rfl -- hailer/hailerlaw39.known
theorem en8 : ∀ args w, (callFunc 8 args).run Try.prog w = .ok (.enter 8 args) w := enters Try.func8 (by kernel_rfl) rfl -- hailer/jitter.New[uint32]
theorem en9 : ∀ args w, (callFunc 9 args).run Try.prog w = .ok (.enter 9 args) w := enters Try.func9 (by kernel_rfl) rfl -- hailer/hailerref39.May
theorem en10 : ∀ args w, (callFunc 10 args).run Try.prog w = .ok (.enter 10 args) w := enters Try.func10 (by kernel_rfl) rfl -- (*hailer/jitter.Buffer[uint32]).Put
theorem en11 : ∀ args w, (callFunc 11 args).run Try.prog w = .ok (.enter 11 args) w := enters Try.func11 (by kernel_rfl) rfl -- (*hailer/hailerref39.Buffer).Put
theorem en12 : ∀ args w, (callFunc 12 args).run Try.prog w = .ok (.enter 12 args) w := enters Try.func12 (by kernel_rfl) rfl -- (*hailer/jitter.Buffer[uint32]).Next
theorem en13 : ∀ args w, (callFunc 13 args).run Try.prog w = .ok (.enter 13 args) w := enters Try.func13 (by kernel_rfl) rfl -- (*hailer/hailerref39.Buffer).Ask
theorem en14 : ∀ args w, (callFunc 14 args).run Try.prog w = .ok (.enter 14 args) w := enters Try.func14 (by kernel_rfl) rfl -- hailer/hailerlaw39.plays
theorem en15 : ∀ args w, (callFunc 15 args).run Try.prog w = .ok (.enter 15 args) w := enters Try.func15 (by kernel_rfl) rfl -- (*hailer/jitter.Buffer[uint32]).All
theorem en16 : ∀ args w, (callFunc 16 args).run Try.prog w = .ok (.enter 16 args) w := enters Try.func16 (by kernel_rfl) rfl -- (*hailer/jitter.Buffer[uint32]).Due
theorem en17 : ∀ args w, (callFunc 17 args).run Try.prog w = .ok (.enter 17 args) w := enters Try.func17 (by kernel_rfl) rfl -- hailer/hailerlaw39.sums[uint32]
theorem en18 : ∀ args w, (callFunc 18 args).run Try.prog w = .ok (.enter 18 args) w := enters Try.func18 (by kernel_rfl) rfl -- (*hailer/hailerref39.Buffer).Due
theorem en19 : ∀ args w, (callFunc 19 args).run Try.prog w = .ok (.enter 19 args) w := enters Try.func19 (by kernel_rfl) rfl -- hailer/jitter.New[uint8]
theorem en20 : ∀ args w, (callFunc 20 args).run Try.prog w = .ok (.enter 20 args) w := enters Try.func20 (by kernel_rfl) rfl -- (*hailer/jitter.Buffer[uint8]).Put
theorem en21 : ∀ args w, (callFunc 21 args).run Try.prog w = .ok (.enter 21 args) w := enters Try.func21 (by kernel_rfl) rfl -- (*hailer/jitter.Buffer[uint8]).Next
theorem en22 : ∀ args w, (callFunc 22 args).run Try.prog w = .ok (.enter 22 args) w := enters Try.func22 (by kernel_rfl) rfl -- (*hailer/jitter.Buffer[uint8]).Due
theorem en23 : ∀ args w, (callFunc 23 args).run Try.prog w = .ok (.enter 23 args) w := enters Try.func23 (by kernel_rfl) rfl -- (*hailer/jitter.Buffer[uint32]).Sums
theorem en24 : ∀ args w, (callFunc 24 args).run Try.prog w = .ok (.enter 24 args) w := enters Try.func24 (by kernel_rfl) rfl -- hailer/jitter.New[uint64]
theorem en25 : ∀ args w, (callFunc 25 args).run Try.prog w = .ok (.enter 25 args) w := enters Try.func25 (by kernel_rfl) rfl -- (*hailer/jitter.Buffer[uint64]).Put
theorem en26 : ∀ args w, (callFunc 26 args).run Try.prog w = .ok (.enter 26 args) w := enters Try.func26 (by kernel_rfl) rfl -- (*hailer/jitter.Buffer[uint64]).Play
theorem en27 : ∀ args w, (callFunc 27 args).run Try.prog w = .ok (.enter 27 args) w := enters Try.func27 (by kernel_rfl) rfl -- (*hailer/jitter.Buffer[uint64]).Next
theorem en28 : ∀ args w, (callFunc 28 args).run Try.prog w = .ok (.enter 28 args) w := enters Try.func28 (by kernel_rfl) rfl -- (*hailer/jitter.Buffer[uint64]).Sums
theorem en29 : ∀ args w, (callFunc 29 args).run Try.prog w = .ok (.enter 29 args) w := enters Try.func29 (by kernel_rfl) rfl -- hailer/jitter.New[string]
theorem en30 : ∀ args w, (callFunc 30 args).run Try.prog w = .ok (.enter 30 args) w := enters Try.func30 (by kernel_rfl) rfl -- (*hailer/jitter.Buffer[string]).Put
theorem en31 : ∀ args w, (callFunc 31 args).run Try.prog w = .ok (.enter 31 args) w := enters Try.func31 (by kernel_rfl) rfl -- (*hailer/jitter.Buffer[string]).Due
theorem en32 : ∀ args w, (callFunc 32 args).run Try.prog w = .ok (.enter 32 args) w := enters Try.func32 (by kernel_rfl) rfl -- (*hailer/jitter.Buffer[string]).Next
theorem en33 : ∀ args w, (callFunc 33 args).run Try.prog w = .ok (.enter 33 args) w := enters Try.func33 (by kernel_rfl) rfl -- hailer/jitter.New[int]
theorem en34 : ∀ args w, (callFunc 34 args).run Try.prog w = .ok (.enter 34 args) w := enters Try.func34 (by kernel_rfl) rfl -- (*hailer/jitter.Buffer[int]).Next
theorem en35 : ∀ args w, (callFunc 35 args).run Try.prog w = .ok (.enter 35 args) w := enters Try.func35 (by kernel_rfl) rfl -- (*hailer/jitter.Buffer[int]).Due
theorem en36 : ∀ args w, (callFunc 36 args).run Try.prog w = .ok (.enter 36 args) w := enters Try.func36 (by kernel_rfl) rfl -- (*hailer/jitter.Buffer[int]).All
theorem en37 : ∀ args w, (callFunc 37 args).run Try.prog w = .ok (.enter 37 args) w := enters Try.func37 (by kernel_rfl) rfl -- (*hailer/jitter.Buffer[int]).Play
theorem en38 : ∀ args w, (callFunc 38 args).run Try.prog w = .ok (.enter 38 args) w := enters Try.func38 (by kernel_rfl) rfl -- (*hailer/jitter.Buffer[int]).Put
theorem en39 : ∀ args w, (callFunc 39 args).run Try.prog w = .ok (.enter 39 args) w := enters Try.func39 (by kernel_rfl) rfl -- (*hailer/jitter.Buffer[int]).Sums
theorem en40 : ∀ args w, (callFunc 40 args).run Try.prog w = .ok (.enter 40 args) w := enters Try.func40 (by kernel_rfl) rfl -- (*hailer/hailerref39.Buffer).place
theorem en41 : ∀ args w, (callFunc 41 args).run Try.prog w = .ok (.enter 41 args) w := enters Try.func41 (by kernel_rfl) rfl -- (*hailer/jitter.Buffer[uint32]).Play
theorem en42 : ∀ args w, (callFunc 42 args).run Try.prog w = .ok (.enter 42 args) w := enters Try.func42 (by kernel_rfl) rfl -- (*hailer/jitter.Buffer[uint32]).All$1
theorem en43 : ∀ args w, (callFunc 43 args).run Try.prog w = .ok (.enter 43 args) w := enters Try.func43 (by kernel_rfl) rfl -- maps.Clone[map[uint64]uint32,uint64,uint32]
theorem en44 : ∀ args w, (callFunc 44 args).run Try.prog w = .ok (.enter 44 args) w := enters Try.func44 (by kernel_rfl) rfl -- slices.Values[[]uint64,uint64]
theorem en45 : ∀ args w, (callFunc 45 args).run Try.prog w = .ok (.enter 45 args) w := enters Try.func45 (by kernel_rfl) rfl -- slices.Sorted[uint64]
theorem en46 : ∀ args w, (callFunc 46 args).run Try.prog w = .ok (.enter 46 args) w := enters Try.func46 (by kernel_rfl) rfl -- maps.Keys[map[uint64]uint32,uint64,uint32]
theorem en47 : ∀ args w, (callFunc 47 args).run Try.prog w = .ok (.enter 47 args) w := enters Try.func47 (by kernel_rfl) rfl -- (*hailer/jitter.Buffer[uint32]).due
theorem en48 : ∀ args w, (callFunc 48 args).run Try.prog w = .ok (.enter 48 args) w := enters Try.func48 (by kernel_rfl) rfl -- hailer/hailerref39.plus
theorem en49 : ∀ args w, (callFunc 49 args).run Try.prog w = .ok (.enter 49 args) w := enters Try.func49 (by kernel_rfl) rfl -- (*hailer/jitter.Buffer[uint8]).due
theorem en50 : ∀ args w, (callFunc 50 args).run Try.prog w = .ok (.enter 50 args) w := enters Try.func50 (by kernel_rfl) rfl -- (*hailer/jitter.Buffer[uint64]).Play$1
theorem en51 : ∀ args w, (callFunc 51 args).run Try.prog w = .ok (.enter 51 args) w := enters Try.func51 (by kernel_rfl) rfl -- (*hailer/jitter.Buffer[uint64]).Due
theorem en52 : ∀ args w, (callFunc 52 args).run Try.prog w = .ok (.enter 52 args) w := enters Try.func52 (by kernel_rfl) rfl -- (*hailer/jitter.Buffer[string]).due
theorem en54 : ∀ args w, (callFunc 54 args).run Try.prog w = .ok (.enter 54 args) w := enters Try.func54 (by kernel_rfl) rfl -- (*hailer/jitter.Buffer[int]).All$1
theorem en57 : ∀ args w, (callFunc 57 args).run Try.prog w = .ok (.enter 57 args) w := enters Try.func57 (by kernel_rfl) rfl -- (*hailer/jitter.Buffer[int]).Play$1
theorem en58 : ∀ args w, (callFunc 58 args).run Try.prog w = .ok (.enter 58 args) w := enters Try.func58 (by kernel_rfl) rfl -- (*hailer/jitter.Buffer[uint32]).Play$1
theorem en60 : ∀ args w, (callFunc 60 args).run Try.prog w = .ok (.enter 60 args) w := enters Try.func60 (by kernel_rfl) rfl -- slices.Values[[]uint64,uint64]$1
theorem en61 : ∀ args w, (callFunc 61 args).run Try.prog w = .ok (.enter 61 args) w := enters Try.func61 (by kernel_rfl) rfl -- slices.Collect[uint64]
theorem en62 : ∀ args w, (callFunc 62 args).run Try.prog w = .ok (.enter 62 args) w := enters Try.func62 (by kernel_rfl) rfl -- slices.Sort[[]uint64,uint64]
theorem en63 : ∀ args w, (callFunc 63 args).run Try.prog w = .ok (.enter 63 args) w := enters Try.func63 (by kernel_rfl) rfl -- maps.Keys[map[uint64]uint32,uint64,uint32]$1
theorem en65 : ∀ args w, (callFunc 65 args).run Try.prog w = .ok (.enter 65 args) w := enters Try.func65 (by kernel_rfl) rfl -- hailer/jitter.plus
theorem en66 : ∀ args w, (callFunc 66 args).run Try.prog w = .ok (.enter 66 args) w := enters Try.func66 (by kernel_rfl) rfl -- (*hailer/jitter.Buffer[uint64]).due
theorem en68 : ∀ args w, (callFunc 68 args).run Try.prog w = .ok (.enter 68 args) w := enters Try.func68 (by kernel_rfl) rfl -- slices.AppendSeq[[]uint64,uint64]
theorem en69 : ∀ args w, (callFunc 69 args).run Try.prog w = .ok (.enter 69 args) w := enters Try.func69 (by kernel_rfl) rfl -- slices.pdqsortOrdered[uint64]
theorem en72 : ∀ args w, (callFunc 72 args).run Try.prog w = .ok (.enter 72 args) w := enters Try.func72 (by kernel_rfl) rfl -- slices.insertionSortOrdered[uint64]
theorem en73 : ∀ args w, (callFunc 73 args).run Try.prog w = .ok (.enter 73 args) w := enters Try.func73 (by kernel_rfl) rfl -- slices.heapSortOrdered[uint64]
theorem en74 : ∀ args w, (callFunc 74 args).run Try.prog w = .ok (.enter 74 args) w := enters Try.func74 (by kernel_rfl) rfl -- slices.breakPatternsOrdered[uint64]
theorem en75 : ∀ args w, (callFunc 75 args).run Try.prog w = .ok (.enter 75 args) w := enters Try.func75 (by kernel_rfl) rfl -- slices.choosePivotOrdered[uint64]
theorem en76 : ∀ args w, (callFunc 76 args).run Try.prog w = .ok (.enter 76 args) w := enters Try.func76 (by kernel_rfl) rfl -- slices.reverseRangeOrdered[uint64]
theorem en77 : ∀ args w, (callFunc 77 args).run Try.prog w = .ok (.enter 77 args) w := enters Try.func77 (by kernel_rfl) rfl -- slices.partialInsertionSortOrdered[uint64]
theorem en78 : ∀ args w, (callFunc 78 args).run Try.prog w = .ok (.enter 78 args) w := enters Try.func78 (by kernel_rfl) rfl -- cmp.Less[uint64]
theorem en79 : ∀ args w, (callFunc 79 args).run Try.prog w = .ok (.enter 79 args) w := enters Try.func79 (by kernel_rfl) rfl -- slices.partitionEqualOrdered[uint64]
theorem en80 : ∀ args w, (callFunc 80 args).run Try.prog w = .ok (.enter 80 args) w := enters Try.func80 (by kernel_rfl) rfl -- slices.partitionOrdered[uint64]
theorem en83 : ∀ args w, (callFunc 83 args).run Try.prog w = .ok (.enter 83 args) w := enters Try.func83 (by kernel_rfl) rfl -- slices.siftDownOrdered[uint64]
theorem en84 : ∀ args w, (callFunc 84 args).run Try.prog w = .ok (.enter 84 args) w := enters Try.func84 (by kernel_rfl) rfl -- slices.nextPowerOfTwo
theorem en86 : ∀ args w, (callFunc 86 args).run Try.prog w = .ok (.enter 86 args) w := enters Try.func86 (by kernel_rfl) rfl -- slices.medianAdjacentOrdered[uint64]
theorem en87 : ∀ args w, (callFunc 87 args).run Try.prog w = .ok (.enter 87 args) w := enters Try.func87 (by kernel_rfl) rfl -- slices.medianOrdered[uint64]
theorem en88 : ∀ args w, (callFunc 88 args).run Try.prog w = .ok (.enter 88 args) w := enters Try.func88 (by kernel_rfl) rfl -- cmp.isNaN[uint64]
theorem en89 : ∀ args w, (callFunc 89 args).run Try.prog w = .ok (.enter 89 args) w := enters Try.func89 (by kernel_rfl) rfl -- slices.order2Ordered[uint64]
end Go.Proofs.Ytklbmgfpnafdlaa
