/- Facts on the types and functions of the program, each closed. -/
import Derived.Test.YtifhkjcimhhaiaaProg
import Derived.Test.YtifhkjcimhhaiaaLibW
namespace Go.Proofs.Ytifhkjcimhhaiaa
open Go Go.RowKit
theorem mixed : Try.prog.follows .mixedOrders = true := by kernel_rfl
theorem on1 : isOne Try.prog 1 = true := by kernel_rfl
theorem sz1 : (Try.prog.info? 1).map (·.size) = some 1 := by kernel_rfl
theorem zr1 : (Try.prog.info? 1).map (·.zero) = some (some (.nilFunc : Value)) := by kernel_rfl
theorem zs1 : (Try.prog.info? 1).map (fun i => (i.zero, i.size)) = some (some (.nilFunc : Value), 1) := by kernel_rfl
theorem un2 : Try.prog.underlying 2 = some (.int .i64) := Try.underlying2
theorem on2 : isOne Try.prog 2 = true := by kernel_rfl
theorem sz2 : (Try.prog.info? 2).map (·.size) = some 1 := by kernel_rfl
theorem zr2 : (Try.prog.info? 2).map (·.zero) = some (some (.int .i64 0 : Value)) := by kernel_rfl
theorem zs2 : (Try.prog.info? 2).map (fun i => (i.zero, i.size)) = some (some (.int .i64 0 : Value), 1) := by kernel_rfl
theorem un3 : Try.prog.underlying 3 = some (.int .i64) := Try.underlying3
theorem on3 : isOne Try.prog 3 = true := by kernel_rfl
theorem sz3 : (Try.prog.info? 3).map (·.size) = some 1 := by kernel_rfl
theorem zr3 : (Try.prog.info? 3).map (·.zero) = some (some (.int .i64 0 : Value)) := by kernel_rfl
theorem zs3 : (Try.prog.info? 3).map (fun i => (i.zero, i.size)) = some (some (.int .i64 0 : Value), 1) := by kernel_rfl
theorem un4 : Try.prog.underlying 4 = some (.bool) := Try.underlying4
theorem on4 : isOne Try.prog 4 = true := by kernel_rfl
theorem sz4 : (Try.prog.info? 4).map (·.size) = some 1 := by kernel_rfl
theorem zr4 : (Try.prog.info? 4).map (·.zero) = some (some (.bool false : Value)) := by kernel_rfl
theorem zs4 : (Try.prog.info? 4).map (fun i => (i.zero, i.size)) = some (some (.bool false : Value), 1) := by kernel_rfl
theorem un5 : Try.prog.underlying 5 = some (.int .u8) := Try.underlying5
theorem on5 : isOne Try.prog 5 = true := by kernel_rfl
theorem sz5 : (Try.prog.info? 5).map (·.size) = some 1 := by kernel_rfl
theorem zr5 : (Try.prog.info? 5).map (·.zero) = some (some (.int .u8 0 : Value)) := by kernel_rfl
theorem zs5 : (Try.prog.info? 5).map (fun i => (i.zero, i.size)) = some (some (.int .u8 0 : Value), 1) := by kernel_rfl
theorem un6 : Try.prog.underlying 6 = some (.int .u8) := Try.underlying6
theorem on6 : isOne Try.prog 6 = true := by kernel_rfl
theorem sz6 : (Try.prog.info? 6).map (·.size) = some 1 := by kernel_rfl
theorem zr6 : (Try.prog.info? 6).map (·.zero) = some (some (.int .u8 0 : Value)) := by kernel_rfl
theorem zs6 : (Try.prog.info? 6).map (fun i => (i.zero, i.size)) = some (some (.int .u8 0 : Value), 1) := by kernel_rfl
theorem ag7 : aggB Try.prog 7 4 = true := by kernel_rfl
theorem sz7 : (Try.prog.info? 7).map (·.size) = some 4 := by kernel_rfl
theorem fo7_0 : fieldOff Try.prog 7 0 = some 0 := by kernel_rfl
theorem fo7_1 : fieldOff Try.prog 7 1 = some 1 := by kernel_rfl
theorem fo7_2 : fieldOff Try.prog 7 2 = some 2 := by kernel_rfl
theorem fo7_3 : fieldOff Try.prog 7 3 = some 3 := by kernel_rfl
theorem zr7 : (Try.prog.info? 7).map (·.zero) = some (some (.agg #[.int .i64 0, .int .i64 0, .bool false, .int .u8 0] : Value)) := by kernel_rfl
theorem zs7 : (Try.prog.info? 7).map (fun i => (i.zero, i.size)) = some (some (.agg #[.int .i64 0, .int .i64 0, .bool false, .int .u8 0] : Value), 4) := by kernel_rfl
theorem ag8 : aggB Try.prog 8 4 = true := by kernel_rfl
theorem sz8 : (Try.prog.info? 8).map (·.size) = some 4 := by kernel_rfl
theorem fo8_0 : fieldOff Try.prog 8 0 = some 0 := by kernel_rfl
theorem fo8_1 : fieldOff Try.prog 8 1 = some 1 := by kernel_rfl
theorem fo8_2 : fieldOff Try.prog 8 2 = some 2 := by kernel_rfl
theorem fo8_3 : fieldOff Try.prog 8 3 = some 3 := by kernel_rfl
theorem zr8 : (Try.prog.info? 8).map (·.zero) = some (some (.agg #[.int .i64 0, .int .i64 0, .bool false, .int .u8 0] : Value)) := by kernel_rfl
theorem zs8 : (Try.prog.info? 8).map (fun i => (i.zero, i.size)) = some (some (.agg #[.int .i64 0, .int .i64 0, .bool false, .int .u8 0] : Value), 4) := by kernel_rfl
theorem un9 : Try.prog.underlying 9 = some (.string) := Try.underlying9
theorem on9 : isOne Try.prog 9 = true := by kernel_rfl
theorem sz9 : (Try.prog.info? 9).map (·.size) = some 1 := by kernel_rfl
theorem zr9 : (Try.prog.info? 9).map (·.zero) = some (some (.string ByteArray.empty : Value)) := by kernel_rfl
theorem zs9 : (Try.prog.info? 9).map (fun i => (i.zero, i.size)) = some (some (.string ByteArray.empty : Value), 1) := by kernel_rfl
theorem un10 : Try.prog.underlying 10 = some (.string) := Try.underlying10
theorem on10 : isOne Try.prog 10 = true := by kernel_rfl
theorem sz10 : (Try.prog.info? 10).map (·.size) = some 1 := by kernel_rfl
theorem zr10 : (Try.prog.info? 10).map (·.zero) = some (some (.string ByteArray.empty : Value)) := by kernel_rfl
theorem zs10 : (Try.prog.info? 10).map (fun i => (i.zero, i.size)) = some (some (.string ByteArray.empty : Value), 1) := by kernel_rfl
theorem un11 : Try.prog.underlying 11 = some (.string) := Try.underlying11
theorem on11 : isOne Try.prog 11 = true := by kernel_rfl
theorem sz11 : (Try.prog.info? 11).map (·.size) = some 1 := by kernel_rfl
theorem zr11 : (Try.prog.info? 11).map (·.zero) = some (some (.string ByteArray.empty : Value)) := by kernel_rfl
theorem zs11 : (Try.prog.info? 11).map (fun i => (i.zero, i.size)) = some (some (.string ByteArray.empty : Value), 1) := by kernel_rfl
theorem un12 : Try.prog.underlying 12 = some (.int .u64) := Try.underlying12
theorem on12 : isOne Try.prog 12 = true := by kernel_rfl
theorem sz12 : (Try.prog.info? 12).map (·.size) = some 1 := by kernel_rfl
theorem zr12 : (Try.prog.info? 12).map (·.zero) = some (some (.int .u64 0 : Value)) := by kernel_rfl
theorem zs12 : (Try.prog.info? 12).map (fun i => (i.zero, i.size)) = some (some (.int .u64 0 : Value), 1) := by kernel_rfl
theorem ag13 : aggB Try.prog 13 2 = true := by kernel_rfl
theorem sz13 : (Try.prog.info? 13).map (·.size) = some 2 := by kernel_rfl
theorem fo13_0 : fieldOff Try.prog 13 0 = some 0 := by kernel_rfl
theorem fo13_1 : fieldOff Try.prog 13 1 = some 1 := by kernel_rfl
theorem zr13 : (Try.prog.info? 13).map (·.zero) = some (some (.agg #[.string ByteArray.empty, .int .u64 0] : Value)) := by kernel_rfl
theorem zs13 : (Try.prog.info? 13).map (fun i => (i.zero, i.size)) = some (some (.agg #[.string ByteArray.empty, .int .u64 0] : Value), 2) := by kernel_rfl
theorem ag14 : aggB Try.prog 14 2 = true := by kernel_rfl
theorem sz14 : (Try.prog.info? 14).map (·.size) = some 2 := by kernel_rfl
theorem fo14_0 : fieldOff Try.prog 14 0 = some 0 := by kernel_rfl
theorem fo14_1 : fieldOff Try.prog 14 1 = some 1 := by kernel_rfl
theorem zr14 : (Try.prog.info? 14).map (·.zero) = some (some (.agg #[.string ByteArray.empty, .int .u64 0] : Value)) := by kernel_rfl
theorem zs14 : (Try.prog.info? 14).map (fun i => (i.zero, i.size)) = some (some (.agg #[.string ByteArray.empty, .int .u64 0] : Value), 2) := by kernel_rfl
theorem un15 : Try.prog.underlying 15 = some (.pointer 130) := Try.underlying15
theorem on15 : isOne Try.prog 15 = true := by kernel_rfl
theorem sz15 : (Try.prog.info? 15).map (·.size) = some 1 := by kernel_rfl
theorem zr15 : (Try.prog.info? 15).map (·.zero) = some (some (.pointer none : Value)) := by kernel_rfl
theorem zs15 : (Try.prog.info? 15).map (fun i => (i.zero, i.size)) = some (some (.pointer none : Value), 1) := by kernel_rfl
theorem un16 : Try.prog.underlying 16 = some (.pointer 133) := Try.underlying16
theorem on16 : isOne Try.prog 16 = true := by kernel_rfl
theorem sz16 : (Try.prog.info? 16).map (·.size) = some 1 := by kernel_rfl
theorem zr16 : (Try.prog.info? 16).map (·.zero) = some (some (.pointer none : Value)) := by kernel_rfl
theorem zs16 : (Try.prog.info? 16).map (fun i => (i.zero, i.size)) = some (some (.pointer none : Value), 1) := by kernel_rfl
theorem un17 : Try.prog.underlying 17 = some (.pointer 141) := Try.underlying17
theorem on17 : isOne Try.prog 17 = true := by kernel_rfl
theorem sz17 : (Try.prog.info? 17).map (·.size) = some 1 := by kernel_rfl
theorem zr17 : (Try.prog.info? 17).map (·.zero) = some (some (.pointer none : Value)) := by kernel_rfl
theorem zs17 : (Try.prog.info? 17).map (fun i => (i.zero, i.size)) = some (some (.pointer none : Value), 1) := by kernel_rfl
theorem ag18 : aggB Try.prog 18 1 = true := by kernel_rfl
theorem sz18 : (Try.prog.info? 18).map (·.size) = some 1 := by kernel_rfl
theorem fo18_0 : fieldOff Try.prog 18 0 = some 0 := by kernel_rfl
theorem zr18 : (Try.prog.info? 18).map (·.zero) = some (some (.agg #[.pointer none] : Value)) := by kernel_rfl
theorem zs18 : (Try.prog.info? 18).map (fun i => (i.zero, i.size)) = some (some (.agg #[.pointer none] : Value), 1) := by kernel_rfl
theorem ag19 : aggB Try.prog 19 1 = true := by kernel_rfl
theorem sz19 : (Try.prog.info? 19).map (·.size) = some 1 := by kernel_rfl
theorem fo19_0 : fieldOff Try.prog 19 0 = some 0 := by kernel_rfl
theorem zr19 : (Try.prog.info? 19).map (·.zero) = some (some (.agg #[.pointer none] : Value)) := by kernel_rfl
theorem zs19 : (Try.prog.info? 19).map (fun i => (i.zero, i.size)) = some (some (.agg #[.pointer none] : Value), 1) := by kernel_rfl
theorem un21 : Try.prog.underlying 21 = some (.int .i32) := Try.underlying21
theorem on21 : isOne Try.prog 21 = true := by kernel_rfl
theorem sz21 : (Try.prog.info? 21).map (·.size) = some 1 := by kernel_rfl
theorem zr21 : (Try.prog.info? 21).map (·.zero) = some (some (.int .i32 0 : Value)) := by kernel_rfl
theorem zs21 : (Try.prog.info? 21).map (fun i => (i.zero, i.size)) = some (some (.int .i32 0 : Value), 1) := by kernel_rfl
theorem un22 : Try.prog.underlying 22 = some (.slice 49) := Try.underlying22
theorem on22 : isOne Try.prog 22 = true := by kernel_rfl
theorem sz22 : (Try.prog.info? 22).map (·.size) = some 1 := by kernel_rfl
theorem zr22 : (Try.prog.info? 22).map (·.zero) = some (some (.slice none 0 0 : Value)) := by kernel_rfl
theorem zs22 : (Try.prog.info? 22).map (fun i => (i.zero, i.size)) = some (some (.slice none 0 0 : Value), 1) := by kernel_rfl
theorem on23 : isOne Try.prog 23 = true := by kernel_rfl
theorem sz23 : (Try.prog.info? 23).map (·.size) = some 1 := by kernel_rfl
theorem zr23 : (Try.prog.info? 23).map (·.zero) = some (some (.nilFunc : Value)) := by kernel_rfl
theorem zs23 : (Try.prog.info? 23).map (fun i => (i.zero, i.size)) = some (some (.nilFunc : Value), 1) := by kernel_rfl
theorem on24 : isOne Try.prog 24 = true := by kernel_rfl
theorem sz24 : (Try.prog.info? 24).map (·.size) = some 1 := by kernel_rfl
theorem zr24 : (Try.prog.info? 24).map (·.zero) = some (some (.nilFunc : Value)) := by kernel_rfl
theorem zs24 : (Try.prog.info? 24).map (fun i => (i.zero, i.size)) = some (some (.nilFunc : Value), 1) := by kernel_rfl
theorem un25 : Try.prog.underlying 25 = some (.slice 34) := Try.underlying25
theorem on25 : isOne Try.prog 25 = true := by kernel_rfl
theorem sz25 : (Try.prog.info? 25).map (·.size) = some 1 := by kernel_rfl
theorem zr25 : (Try.prog.info? 25).map (·.zero) = some (some (.slice none 0 0 : Value)) := by kernel_rfl
theorem zs25 : (Try.prog.info? 25).map (fun i => (i.zero, i.size)) = some (some (.slice none 0 0 : Value), 1) := by kernel_rfl
theorem on26 : isOne Try.prog 26 = true := by kernel_rfl
theorem sz26 : (Try.prog.info? 26).map (·.size) = some 1 := by kernel_rfl
theorem zr26 : (Try.prog.info? 26).map (·.zero) = some (some (.nilFunc : Value)) := by kernel_rfl
theorem zs26 : (Try.prog.info? 26).map (fun i => (i.zero, i.size)) = some (some (.nilFunc : Value), 1) := by kernel_rfl
theorem un27 : Try.prog.underlying 27 = some (.slice 38) := Try.underlying27
theorem on27 : isOne Try.prog 27 = true := by kernel_rfl
theorem sz27 : (Try.prog.info? 27).map (·.size) = some 1 := by kernel_rfl
theorem zr27 : (Try.prog.info? 27).map (·.zero) = some (some (.slice none 0 0 : Value)) := by kernel_rfl
theorem zs27 : (Try.prog.info? 27).map (fun i => (i.zero, i.size)) = some (some (.slice none 0 0 : Value), 1) := by kernel_rfl
theorem un28 : Try.prog.underlying 28 = some (.slice 38) := Try.underlying28
theorem on28 : isOne Try.prog 28 = true := by kernel_rfl
theorem sz28 : (Try.prog.info? 28).map (·.size) = some 1 := by kernel_rfl
theorem zr28 : (Try.prog.info? 28).map (·.zero) = some (some (.slice none 0 0 : Value)) := by kernel_rfl
theorem zs28 : (Try.prog.info? 28).map (fun i => (i.zero, i.size)) = some (some (.slice none 0 0 : Value), 1) := by kernel_rfl
theorem un29 : Try.prog.underlying 29 = some (.slice 3) := Try.underlying29
theorem on29 : isOne Try.prog 29 = true := by kernel_rfl
theorem sz29 : (Try.prog.info? 29).map (·.size) = some 1 := by kernel_rfl
theorem zr29 : (Try.prog.info? 29).map (·.zero) = some (some (.slice none 0 0 : Value)) := by kernel_rfl
theorem zs29 : (Try.prog.info? 29).map (fun i => (i.zero, i.size)) = some (some (.slice none 0 0 : Value), 1) := by kernel_rfl
theorem on31 : isOne Try.prog 31 = true := by kernel_rfl
theorem sz31 : (Try.prog.info? 31).map (·.size) = some 1 := by kernel_rfl
theorem zr31 : (Try.prog.info? 31).map (·.zero) = some (some (.nilFunc : Value)) := by kernel_rfl
theorem zs31 : (Try.prog.info? 31).map (fun i => (i.zero, i.size)) = some (some (.nilFunc : Value), 1) := by kernel_rfl
theorem un32 : Try.prog.underlying 32 = some (.map 3 34) := Try.underlying32
theorem on32 : isOne Try.prog 32 = true := by kernel_rfl
theorem sz32 : (Try.prog.info? 32).map (·.size) = some 1 := by kernel_rfl
theorem zr32 : (Try.prog.info? 32).map (·.zero) = some (some (.map none : Value)) := by kernel_rfl
theorem zs32 : (Try.prog.info? 32).map (fun i => (i.zero, i.size)) = some (some (.map none : Value), 1) := by kernel_rfl
theorem ag33 : aggB Try.prog 33 1 = true := by kernel_rfl
theorem sz33 : (Try.prog.info? 33).map (·.size) = some 1 := by kernel_rfl
theorem fo33_0 : fieldOff Try.prog 33 0 = some 0 := by kernel_rfl
theorem zr33 : (Try.prog.info? 33).map (·.zero) = some (some (.agg #[.string ByteArray.empty] : Value)) := by kernel_rfl
theorem zs33 : (Try.prog.info? 33).map (fun i => (i.zero, i.size)) = some (some (.agg #[.string ByteArray.empty] : Value), 1) := by kernel_rfl
theorem ag34 : aggB Try.prog 34 1 = true := by kernel_rfl
theorem sz34 : (Try.prog.info? 34).map (·.size) = some 1 := by kernel_rfl
theorem fo34_0 : fieldOff Try.prog 34 0 = some 0 := by kernel_rfl
theorem zr34 : (Try.prog.info? 34).map (·.zero) = some (some (.agg #[.string ByteArray.empty] : Value)) := by kernel_rfl
theorem zs34 : (Try.prog.info? 34).map (fun i => (i.zero, i.size)) = some (some (.agg #[.string ByteArray.empty] : Value), 1) := by kernel_rfl
theorem un36 : Try.prog.underlying 36 = some (.int .u64) := Try.underlying36
theorem on36 : isOne Try.prog 36 = true := by kernel_rfl
theorem sz36 : (Try.prog.info? 36).map (·.size) = some 1 := by kernel_rfl
theorem zr36 : (Try.prog.info? 36).map (·.zero) = some (some (.int .u64 0 : Value)) := by kernel_rfl
theorem zs36 : (Try.prog.info? 36).map (fun i => (i.zero, i.size)) = some (some (.int .u64 0 : Value), 1) := by kernel_rfl
theorem ag37 : aggB Try.prog 37 3 = true := by kernel_rfl
theorem sz37 : (Try.prog.info? 37).map (·.size) = some 3 := by kernel_rfl
theorem fo37_0 : fieldOff Try.prog 37 0 = some 0 := by kernel_rfl
theorem fo37_1 : fieldOff Try.prog 37 1 = some 1 := by kernel_rfl
theorem fo37_2 : fieldOff Try.prog 37 2 = some 2 := by kernel_rfl
theorem zr37 : (Try.prog.info? 37).map (·.zero) = some (some (.agg #[.int .u8 0, .int .u64 0, .slice none 0 0] : Value)) := by kernel_rfl
theorem zs37 : (Try.prog.info? 37).map (fun i => (i.zero, i.size)) = some (some (.agg #[.int .u8 0, .int .u64 0, .slice none 0 0] : Value), 3) := by kernel_rfl
theorem ag38 : aggB Try.prog 38 3 = true := by kernel_rfl
theorem sz38 : (Try.prog.info? 38).map (·.size) = some 3 := by kernel_rfl
theorem fo38_0 : fieldOff Try.prog 38 0 = some 0 := by kernel_rfl
theorem fo38_1 : fieldOff Try.prog 38 1 = some 1 := by kernel_rfl
theorem fo38_2 : fieldOff Try.prog 38 2 = some 2 := by kernel_rfl
theorem zr38 : (Try.prog.info? 38).map (·.zero) = some (some (.agg #[.int .u8 0, .int .u64 0, .slice none 0 0] : Value)) := by kernel_rfl
theorem zs38 : (Try.prog.info? 38).map (fun i => (i.zero, i.size)) = some (some (.agg #[.int .u8 0, .int .u64 0, .slice none 0 0] : Value), 3) := by kernel_rfl
theorem on39 : isOne Try.prog 39 = true := by kernel_rfl
theorem sz39 : (Try.prog.info? 39).map (·.size) = some 1 := by kernel_rfl
theorem zr39 : (Try.prog.info? 39).map (·.zero) = some (some (.nilFunc : Value)) := by kernel_rfl
theorem zs39 : (Try.prog.info? 39).map (fun i => (i.zero, i.size)) = some (some (.nilFunc : Value), 1) := by kernel_rfl
theorem on40 : isOne Try.prog 40 = true := by kernel_rfl
theorem sz40 : (Try.prog.info? 40).map (·.size) = some 1 := by kernel_rfl
theorem zr40 : (Try.prog.info? 40).map (·.zero) = some (some (.nilFunc : Value)) := by kernel_rfl
theorem zs40 : (Try.prog.info? 40).map (fun i => (i.zero, i.size)) = some (some (.nilFunc : Value), 1) := by kernel_rfl
theorem on41 : isOne Try.prog 41 = true := by kernel_rfl
theorem sz41 : (Try.prog.info? 41).map (·.size) = some 1 := by kernel_rfl
theorem zr41 : (Try.prog.info? 41).map (·.zero) = some (some (.nilFunc : Value)) := by kernel_rfl
theorem zs41 : (Try.prog.info? 41).map (fun i => (i.zero, i.size)) = some (some (.nilFunc : Value), 1) := by kernel_rfl
theorem on42 : isOne Try.prog 42 = true := by kernel_rfl
theorem sz42 : (Try.prog.info? 42).map (·.size) = some 1 := by kernel_rfl
theorem zr42 : (Try.prog.info? 42).map (·.zero) = some (some (.nilFunc : Value)) := by kernel_rfl
theorem zs42 : (Try.prog.info? 42).map (fun i => (i.zero, i.size)) = some (some (.nilFunc : Value), 1) := by kernel_rfl
theorem on43 : isOne Try.prog 43 = true := by kernel_rfl
theorem sz43 : (Try.prog.info? 43).map (·.size) = some 1 := by kernel_rfl
theorem zr43 : (Try.prog.info? 43).map (·.zero) = some (some (.nilFunc : Value)) := by kernel_rfl
theorem zs43 : (Try.prog.info? 43).map (fun i => (i.zero, i.size)) = some (some (.nilFunc : Value), 1) := by kernel_rfl
theorem un44 : Try.prog.underlying 44 = some (.slice 4) := Try.underlying44
theorem on44 : isOne Try.prog 44 = true := by kernel_rfl
theorem sz44 : (Try.prog.info? 44).map (·.size) = some 1 := by kernel_rfl
theorem zr44 : (Try.prog.info? 44).map (·.zero) = some (some (.slice none 0 0 : Value)) := by kernel_rfl
theorem zs44 : (Try.prog.info? 44).map (fun i => (i.zero, i.size)) = some (some (.slice none 0 0 : Value), 1) := by kernel_rfl
theorem un45 : Try.prog.underlying 45 = some (.pointer 78) := Try.underlying45
theorem on45 : isOne Try.prog 45 = true := by kernel_rfl
theorem sz45 : (Try.prog.info? 45).map (·.size) = some 1 := by kernel_rfl
theorem zr45 : (Try.prog.info? 45).map (·.zero) = some (some (.pointer none : Value)) := by kernel_rfl
theorem zs45 : (Try.prog.info? 45).map (fun i => (i.zero, i.size)) = some (some (.pointer none : Value), 1) := by kernel_rfl
theorem on46 : isOne Try.prog 46 = true := by kernel_rfl
theorem sz46 : (Try.prog.info? 46).map (·.size) = some 1 := by kernel_rfl
theorem zr46 : (Try.prog.info? 46).map (·.zero) = some (some (.nilFunc : Value)) := by kernel_rfl
theorem zs46 : (Try.prog.info? 46).map (fun i => (i.zero, i.size)) = some (some (.nilFunc : Value), 1) := by kernel_rfl
theorem on47 : isOne Try.prog 47 = true := by kernel_rfl
theorem sz47 : (Try.prog.info? 47).map (·.size) = some 1 := by kernel_rfl
theorem zr47 : (Try.prog.info? 47).map (·.zero) = some (some (.nilFunc : Value)) := by kernel_rfl
theorem zs47 : (Try.prog.info? 47).map (fun i => (i.zero, i.size)) = some (some (.nilFunc : Value), 1) := by kernel_rfl
theorem ag48 : aggB Try.prog 48 5 = true := by kernel_rfl
theorem sz48 : (Try.prog.info? 48).map (·.size) = some 5 := by kernel_rfl
theorem fo48_0 : fieldOff Try.prog 48 0 = some 0 := by kernel_rfl
theorem fo48_1 : fieldOff Try.prog 48 1 = some 1 := by kernel_rfl
theorem fo48_2 : fieldOff Try.prog 48 2 = some 2 := by kernel_rfl
theorem fo48_3 : fieldOff Try.prog 48 3 = some 3 := by kernel_rfl
theorem fo48_4 : fieldOff Try.prog 48 4 = some 4 := by kernel_rfl
theorem zr48 : (Try.prog.info? 48).map (·.zero) = some (some (.agg #[.int .u8 0, .int .u64 0, .int .i64 0, .int .i64 0, .slice none 0 0] : Value)) := by kernel_rfl
theorem zs48 : (Try.prog.info? 48).map (fun i => (i.zero, i.size)) = some (some (.agg #[.int .u8 0, .int .u64 0, .int .i64 0, .int .i64 0, .slice none 0 0] : Value), 5) := by kernel_rfl
theorem ag49 : aggB Try.prog 49 5 = true := by kernel_rfl
theorem sz49 : (Try.prog.info? 49).map (·.size) = some 5 := by kernel_rfl
theorem fo49_0 : fieldOff Try.prog 49 0 = some 0 := by kernel_rfl
theorem fo49_1 : fieldOff Try.prog 49 1 = some 1 := by kernel_rfl
theorem fo49_2 : fieldOff Try.prog 49 2 = some 2 := by kernel_rfl
theorem fo49_3 : fieldOff Try.prog 49 3 = some 3 := by kernel_rfl
theorem fo49_4 : fieldOff Try.prog 49 4 = some 4 := by kernel_rfl
theorem zr49 : (Try.prog.info? 49).map (·.zero) = some (some (.agg #[.int .u8 0, .int .u64 0, .int .i64 0, .int .i64 0, .slice none 0 0] : Value)) := by kernel_rfl
theorem zs49 : (Try.prog.info? 49).map (fun i => (i.zero, i.size)) = some (some (.agg #[.int .u8 0, .int .u64 0, .int .i64 0, .int .i64 0, .slice none 0 0] : Value), 5) := by kernel_rfl
theorem on50 : isOne Try.prog 50 = true := by kernel_rfl
theorem sz50 : (Try.prog.info? 50).map (·.size) = some 1 := by kernel_rfl
theorem zr50 : (Try.prog.info? 50).map (·.zero) = some (some (.nilFunc : Value)) := by kernel_rfl
theorem zs50 : (Try.prog.info? 50).map (fun i => (i.zero, i.size)) = some (some (.nilFunc : Value), 1) := by kernel_rfl
theorem on51 : isOne Try.prog 51 = true := by kernel_rfl
theorem sz51 : (Try.prog.info? 51).map (·.size) = some 1 := by kernel_rfl
theorem zr51 : (Try.prog.info? 51).map (·.zero) = some (some (.nilFunc : Value)) := by kernel_rfl
theorem zs51 : (Try.prog.info? 51).map (fun i => (i.zero, i.size)) = some (some (.nilFunc : Value), 1) := by kernel_rfl
theorem on52 : isOne Try.prog 52 = true := by kernel_rfl
theorem sz52 : (Try.prog.info? 52).map (·.size) = some 1 := by kernel_rfl
theorem zr52 : (Try.prog.info? 52).map (·.zero) = some (some (.nilFunc : Value)) := by kernel_rfl
theorem zs52 : (Try.prog.info? 52).map (fun i => (i.zero, i.size)) = some (some (.nilFunc : Value), 1) := by kernel_rfl
theorem on53 : isOne Try.prog 53 = true := by kernel_rfl
theorem sz53 : (Try.prog.info? 53).map (·.size) = some 1 := by kernel_rfl
theorem zr53 : (Try.prog.info? 53).map (·.zero) = some (some (.nilFunc : Value)) := by kernel_rfl
theorem zs53 : (Try.prog.info? 53).map (fun i => (i.zero, i.size)) = some (some (.nilFunc : Value), 1) := by kernel_rfl
theorem un54 : Try.prog.underlying 54 = some (.int .i64) := Try.underlying54
theorem on54 : isOne Try.prog 54 = true := by kernel_rfl
theorem sz54 : (Try.prog.info? 54).map (·.size) = some 1 := by kernel_rfl
theorem zr54 : (Try.prog.info? 54).map (·.zero) = some (some (.int .i64 0 : Value)) := by kernel_rfl
theorem zs54 : (Try.prog.info? 54).map (fun i => (i.zero, i.size)) = some (some (.int .i64 0 : Value), 1) := by kernel_rfl
theorem on56 : isOne Try.prog 56 = true := by kernel_rfl
theorem sz56 : (Try.prog.info? 56).map (·.size) = some 1 := by kernel_rfl
theorem zr56 : (Try.prog.info? 56).map (·.zero) = some (some (.nilFunc : Value)) := by kernel_rfl
theorem zs56 : (Try.prog.info? 56).map (fun i => (i.zero, i.size)) = some (some (.nilFunc : Value), 1) := by kernel_rfl
theorem on57 : isOne Try.prog 57 = true := by kernel_rfl
theorem sz57 : (Try.prog.info? 57).map (·.size) = some 1 := by kernel_rfl
theorem zr57 : (Try.prog.info? 57).map (·.zero) = some (some (.nilFunc : Value)) := by kernel_rfl
theorem zs57 : (Try.prog.info? 57).map (fun i => (i.zero, i.size)) = some (some (.nilFunc : Value), 1) := by kernel_rfl
theorem on58 : isOne Try.prog 58 = true := by kernel_rfl
theorem sz58 : (Try.prog.info? 58).map (·.size) = some 1 := by kernel_rfl
theorem zr58 : (Try.prog.info? 58).map (·.zero) = some (some (.nilFunc : Value)) := by kernel_rfl
theorem zs58 : (Try.prog.info? 58).map (fun i => (i.zero, i.size)) = some (some (.nilFunc : Value), 1) := by kernel_rfl
theorem un59 : Try.prog.underlying 59 = some (.map 34 60) := Try.underlying59
theorem on59 : isOne Try.prog 59 = true := by kernel_rfl
theorem sz59 : (Try.prog.info? 59).map (·.size) = some 1 := by kernel_rfl
theorem zr59 : (Try.prog.info? 59).map (·.zero) = some (some (.map none : Value)) := by kernel_rfl
theorem zs59 : (Try.prog.info? 59).map (fun i => (i.zero, i.size)) = some (some (.map none : Value), 1) := by kernel_rfl
theorem sz60 : (Try.prog.info? 60).map (·.size) = some 0 := by kernel_rfl
theorem zr60 : (Try.prog.info? 60).map (·.zero) = some (some (.agg #[] : Value)) := by kernel_rfl
theorem zs60 : (Try.prog.info? 60).map (fun i => (i.zero, i.size)) = some (some (.agg #[] : Value), 0) := by kernel_rfl
theorem on62 : isOne Try.prog 62 = true := by kernel_rfl
theorem sz62 : (Try.prog.info? 62).map (·.size) = some 1 := by kernel_rfl
theorem zr62 : (Try.prog.info? 62).map (·.zero) = some (some (.nilFunc : Value)) := by kernel_rfl
theorem zs62 : (Try.prog.info? 62).map (fun i => (i.zero, i.size)) = some (some (.nilFunc : Value), 1) := by kernel_rfl
theorem on64 : isOne Try.prog 64 = true := by kernel_rfl
theorem sz64 : (Try.prog.info? 64).map (·.size) = some 1 := by kernel_rfl
theorem zr64 : (Try.prog.info? 64).map (·.zero) = some (some (.nilFunc : Value)) := by kernel_rfl
theorem zs64 : (Try.prog.info? 64).map (fun i => (i.zero, i.size)) = some (some (.nilFunc : Value), 1) := by kernel_rfl
theorem on66 : isOne Try.prog 66 = true := by kernel_rfl
theorem sz66 : (Try.prog.info? 66).map (·.size) = some 1 := by kernel_rfl
theorem zr66 : (Try.prog.info? 66).map (·.zero) = some (some (.nilFunc : Value)) := by kernel_rfl
theorem zs66 : (Try.prog.info? 66).map (fun i => (i.zero, i.size)) = some (some (.nilFunc : Value), 1) := by kernel_rfl
theorem on67 : isOne Try.prog 67 = true := by kernel_rfl
theorem sz67 : (Try.prog.info? 67).map (·.size) = some 1 := by kernel_rfl
theorem zr67 : (Try.prog.info? 67).map (·.zero) = some (some (.nilFunc : Value)) := by kernel_rfl
theorem zs67 : (Try.prog.info? 67).map (fun i => (i.zero, i.size)) = some (some (.nilFunc : Value), 1) := by kernel_rfl
theorem on69 : isOne Try.prog 69 = true := by kernel_rfl
theorem sz69 : (Try.prog.info? 69).map (·.size) = some 1 := by kernel_rfl
theorem zr69 : (Try.prog.info? 69).map (·.zero) = some (some (.nilFunc : Value)) := by kernel_rfl
theorem zs69 : (Try.prog.info? 69).map (fun i => (i.zero, i.size)) = some (some (.nilFunc : Value), 1) := by kernel_rfl
theorem on71 : isOne Try.prog 71 = true := by kernel_rfl
theorem sz71 : (Try.prog.info? 71).map (·.size) = some 1 := by kernel_rfl
theorem zr71 : (Try.prog.info? 71).map (·.zero) = some (some (.nilFunc : Value)) := by kernel_rfl
theorem zs71 : (Try.prog.info? 71).map (fun i => (i.zero, i.size)) = some (some (.nilFunc : Value), 1) := by kernel_rfl
theorem on73 : isOne Try.prog 73 = true := by kernel_rfl
theorem sz73 : (Try.prog.info? 73).map (·.size) = some 1 := by kernel_rfl
theorem zr73 : (Try.prog.info? 73).map (·.zero) = some (some (.nilFunc : Value)) := by kernel_rfl
theorem zs73 : (Try.prog.info? 73).map (fun i => (i.zero, i.size)) = some (some (.nilFunc : Value), 1) := by kernel_rfl
theorem on74 : isOne Try.prog 74 = true := by kernel_rfl
theorem sz74 : (Try.prog.info? 74).map (·.size) = some 1 := by kernel_rfl
theorem zr74 : (Try.prog.info? 74).map (·.zero) = some (some (.nilFunc : Value)) := by kernel_rfl
theorem zs74 : (Try.prog.info? 74).map (fun i => (i.zero, i.size)) = some (some (.nilFunc : Value), 1) := by kernel_rfl
theorem un75 : Try.prog.underlying 75 = some (.slice 5) := Try.underlying75
theorem on75 : isOne Try.prog 75 = true := by kernel_rfl
theorem sz75 : (Try.prog.info? 75).map (·.size) = some 1 := by kernel_rfl
theorem zr75 : (Try.prog.info? 75).map (·.zero) = some (some (.slice none 0 0 : Value)) := by kernel_rfl
theorem zs75 : (Try.prog.info? 75).map (fun i => (i.zero, i.size)) = some (some (.slice none 0 0 : Value), 1) := by kernel_rfl
theorem un76 : Try.prog.underlying 76 = some (.int .u64) := Try.underlying76
theorem on76 : isOne Try.prog 76 = true := by kernel_rfl
theorem sz76 : (Try.prog.info? 76).map (·.size) = some 1 := by kernel_rfl
theorem zr76 : (Try.prog.info? 76).map (·.zero) = some (some (.int .u64 0 : Value)) := by kernel_rfl
theorem zs76 : (Try.prog.info? 76).map (fun i => (i.zero, i.size)) = some (some (.int .u64 0 : Value), 1) := by kernel_rfl
theorem ag77 : aggB Try.prog 77 1 = true := by kernel_rfl
theorem sz77 : (Try.prog.info? 77).map (·.size) = some 1 := by kernel_rfl
theorem fo77_0 : fieldOff Try.prog 77 0 = some 0 := by kernel_rfl
theorem zr77 : (Try.prog.info? 77).map (·.zero) = some (some (.agg #[.map none] : Value)) := by kernel_rfl
theorem zs77 : (Try.prog.info? 77).map (fun i => (i.zero, i.size)) = some (some (.agg #[.map none] : Value), 1) := by kernel_rfl
theorem ag78 : aggB Try.prog 78 1 = true := by kernel_rfl
theorem sz78 : (Try.prog.info? 78).map (·.size) = some 1 := by kernel_rfl
theorem fo78_0 : fieldOff Try.prog 78 0 = some 0 := by kernel_rfl
theorem zr78 : (Try.prog.info? 78).map (·.zero) = some (some (.agg #[.map none] : Value)) := by kernel_rfl
theorem zs78 : (Try.prog.info? 78).map (fun i => (i.zero, i.size)) = some (some (.agg #[.map none] : Value), 1) := by kernel_rfl
theorem on79 : isOne Try.prog 79 = true := by kernel_rfl
theorem sz79 : (Try.prog.info? 79).map (·.size) = some 1 := by kernel_rfl
theorem zr79 : (Try.prog.info? 79).map (·.zero) = some (some (.nilFunc : Value)) := by kernel_rfl
theorem zs79 : (Try.prog.info? 79).map (fun i => (i.zero, i.size)) = some (some (.nilFunc : Value), 1) := by kernel_rfl
theorem on81 : isOne Try.prog 81 = true := by kernel_rfl
theorem sz81 : (Try.prog.info? 81).map (·.size) = some 1 := by kernel_rfl
theorem zr81 : (Try.prog.info? 81).map (·.zero) = some (some (.nilFunc : Value)) := by kernel_rfl
theorem zs81 : (Try.prog.info? 81).map (fun i => (i.zero, i.size)) = some (some (.nilFunc : Value), 1) := by kernel_rfl
theorem on82 : isOne Try.prog 82 = true := by kernel_rfl
theorem sz82 : (Try.prog.info? 82).map (·.size) = some 1 := by kernel_rfl
theorem zr82 : (Try.prog.info? 82).map (·.zero) = some (some (.nilFunc : Value)) := by kernel_rfl
theorem zs82 : (Try.prog.info? 82).map (fun i => (i.zero, i.size)) = some (some (.nilFunc : Value), 1) := by kernel_rfl
theorem on83 : isOne Try.prog 83 = true := by kernel_rfl
theorem sz83 : (Try.prog.info? 83).map (·.size) = some 1 := by kernel_rfl
theorem zr83 : (Try.prog.info? 83).map (·.zero) = some (some (.nilFunc : Value)) := by kernel_rfl
theorem zs83 : (Try.prog.info? 83).map (fun i => (i.zero, i.size)) = some (some (.nilFunc : Value), 1) := by kernel_rfl
theorem on84 : isOne Try.prog 84 = true := by kernel_rfl
theorem sz84 : (Try.prog.info? 84).map (·.size) = some 1 := by kernel_rfl
theorem zr84 : (Try.prog.info? 84).map (·.zero) = some (some (.nilFunc : Value)) := by kernel_rfl
theorem zs84 : (Try.prog.info? 84).map (fun i => (i.zero, i.size)) = some (some (.nilFunc : Value), 1) := by kernel_rfl
theorem un85 : Try.prog.underlying 85 = some (.slice 9) := Try.underlying85
theorem on85 : isOne Try.prog 85 = true := by kernel_rfl
theorem sz85 : (Try.prog.info? 85).map (·.size) = some 1 := by kernel_rfl
theorem zr85 : (Try.prog.info? 85).map (·.zero) = some (some (.slice none 0 0 : Value)) := by kernel_rfl
theorem zs85 : (Try.prog.info? 85).map (fun i => (i.zero, i.size)) = some (some (.slice none 0 0 : Value), 1) := by kernel_rfl
theorem on86 : isOne Try.prog 86 = true := by kernel_rfl
theorem sz86 : (Try.prog.info? 86).map (·.size) = some 1 := by kernel_rfl
theorem zr86 : (Try.prog.info? 86).map (·.zero) = some (some (.nilFunc : Value)) := by kernel_rfl
theorem zs86 : (Try.prog.info? 86).map (fun i => (i.zero, i.size)) = some (some (.nilFunc : Value), 1) := by kernel_rfl
theorem on87 : isOne Try.prog 87 = true := by kernel_rfl
theorem sz87 : (Try.prog.info? 87).map (·.size) = some 1 := by kernel_rfl
theorem zr87 : (Try.prog.info? 87).map (·.zero) = some (some (.nilFunc : Value)) := by kernel_rfl
theorem zs87 : (Try.prog.info? 87).map (fun i => (i.zero, i.size)) = some (some (.nilFunc : Value), 1) := by kernel_rfl
theorem on88 : isOne Try.prog 88 = true := by kernel_rfl
theorem sz88 : (Try.prog.info? 88).map (·.size) = some 1 := by kernel_rfl
theorem zr88 : (Try.prog.info? 88).map (·.zero) = some (some (.nilFunc : Value)) := by kernel_rfl
theorem zs88 : (Try.prog.info? 88).map (fun i => (i.zero, i.size)) = some (some (.nilFunc : Value), 1) := by kernel_rfl
theorem on89 : isOne Try.prog 89 = true := by kernel_rfl
theorem sz89 : (Try.prog.info? 89).map (·.size) = some 1 := by kernel_rfl
theorem zr89 : (Try.prog.info? 89).map (·.zero) = some (some (.nilFunc : Value)) := by kernel_rfl
theorem zs89 : (Try.prog.info? 89).map (fun i => (i.zero, i.size)) = some (some (.nilFunc : Value), 1) := by kernel_rfl
theorem on90 : isOne Try.prog 90 = true := by kernel_rfl
theorem sz90 : (Try.prog.info? 90).map (·.size) = some 1 := by kernel_rfl
theorem zr90 : (Try.prog.info? 90).map (·.zero) = some (some (.nilFunc : Value)) := by kernel_rfl
theorem zs90 : (Try.prog.info? 90).map (fun i => (i.zero, i.size)) = some (some (.nilFunc : Value), 1) := by kernel_rfl
theorem on91 : isOne Try.prog 91 = true := by kernel_rfl
theorem sz91 : (Try.prog.info? 91).map (·.size) = some 1 := by kernel_rfl
theorem zr91 : (Try.prog.info? 91).map (·.zero) = some (some (.nilFunc : Value)) := by kernel_rfl
theorem zs91 : (Try.prog.info? 91).map (fun i => (i.zero, i.size)) = some (some (.nilFunc : Value), 1) := by kernel_rfl
theorem on92 : isOne Try.prog 92 = true := by kernel_rfl
theorem sz92 : (Try.prog.info? 92).map (·.size) = some 1 := by kernel_rfl
theorem zr92 : (Try.prog.info? 92).map (·.zero) = some (some (.nilFunc : Value)) := by kernel_rfl
theorem zs92 : (Try.prog.info? 92).map (fun i => (i.zero, i.size)) = some (some (.nilFunc : Value), 1) := by kernel_rfl
theorem un93 : Try.prog.underlying 93 = some (.pointer 95) := Try.underlying93
theorem on93 : isOne Try.prog 93 = true := by kernel_rfl
theorem sz93 : (Try.prog.info? 93).map (·.size) = some 1 := by kernel_rfl
theorem zr93 : (Try.prog.info? 93).map (·.zero) = some (some (.pointer none : Value)) := by kernel_rfl
theorem zs93 : (Try.prog.info? 93).map (fun i => (i.zero, i.size)) = some (some (.pointer none : Value), 1) := by kernel_rfl
theorem ag94 : aggB Try.prog 94 2 = true := by kernel_rfl
theorem sz94 : (Try.prog.info? 94).map (·.size) = some 2 := by kernel_rfl
theorem fo94_0 : fieldOff Try.prog 94 0 = some 0 := by kernel_rfl
theorem fo94_1 : fieldOff Try.prog 94 1 = some 1 := by kernel_rfl
theorem zr94 : (Try.prog.info? 94).map (·.zero) = some (some (.agg #[.pointer none, .slice none 0 0] : Value)) := by kernel_rfl
theorem zs94 : (Try.prog.info? 94).map (fun i => (i.zero, i.size)) = some (some (.agg #[.pointer none, .slice none 0 0] : Value), 2) := by kernel_rfl
theorem ag95 : aggB Try.prog 95 2 = true := by kernel_rfl
theorem sz95 : (Try.prog.info? 95).map (·.size) = some 2 := by kernel_rfl
theorem fo95_0 : fieldOff Try.prog 95 0 = some 0 := by kernel_rfl
theorem fo95_1 : fieldOff Try.prog 95 1 = some 1 := by kernel_rfl
theorem zr95 : (Try.prog.info? 95).map (·.zero) = some (some (.agg #[.pointer none, .slice none 0 0] : Value)) := by kernel_rfl
theorem zs95 : (Try.prog.info? 95).map (fun i => (i.zero, i.size)) = some (some (.agg #[.pointer none, .slice none 0 0] : Value), 2) := by kernel_rfl
theorem on98 : isOne Try.prog 98 = true := by kernel_rfl
theorem sz98 : (Try.prog.info? 98).map (·.size) = some 1 := by kernel_rfl
theorem zr98 : (Try.prog.info? 98).map (·.zero) = some (some (.nilFunc : Value)) := by kernel_rfl
theorem zs98 : (Try.prog.info? 98).map (fun i => (i.zero, i.size)) = some (some (.nilFunc : Value), 1) := by kernel_rfl
theorem on100 : isOne Try.prog 100 = true := by kernel_rfl
theorem sz100 : (Try.prog.info? 100).map (·.size) = some 1 := by kernel_rfl
theorem zr100 : (Try.prog.info? 100).map (·.zero) = some (some (.nilFunc : Value)) := by kernel_rfl
theorem zs100 : (Try.prog.info? 100).map (fun i => (i.zero, i.size)) = some (some (.nilFunc : Value), 1) := by kernel_rfl
theorem on101 : isOne Try.prog 101 = true := by kernel_rfl
theorem sz101 : (Try.prog.info? 101).map (·.size) = some 1 := by kernel_rfl
theorem zr101 : (Try.prog.info? 101).map (·.zero) = some (some (.nilFunc : Value)) := by kernel_rfl
theorem zs101 : (Try.prog.info? 101).map (fun i => (i.zero, i.size)) = some (some (.nilFunc : Value), 1) := by kernel_rfl
theorem on102 : isOne Try.prog 102 = true := by kernel_rfl
theorem sz102 : (Try.prog.info? 102).map (·.size) = some 1 := by kernel_rfl
theorem zr102 : (Try.prog.info? 102).map (·.zero) = some (some (.nilFunc : Value)) := by kernel_rfl
theorem zs102 : (Try.prog.info? 102).map (fun i => (i.zero, i.size)) = some (some (.nilFunc : Value), 1) := by kernel_rfl
theorem on103 : isOne Try.prog 103 = true := by kernel_rfl
theorem sz103 : (Try.prog.info? 103).map (·.size) = some 1 := by kernel_rfl
theorem zr103 : (Try.prog.info? 103).map (·.zero) = some (some (.nilFunc : Value)) := by kernel_rfl
theorem zs103 : (Try.prog.info? 103).map (fun i => (i.zero, i.size)) = some (some (.nilFunc : Value), 1) := by kernel_rfl
theorem on104 : isOne Try.prog 104 = true := by kernel_rfl
theorem sz104 : (Try.prog.info? 104).map (·.size) = some 1 := by kernel_rfl
theorem zr104 : (Try.prog.info? 104).map (·.zero) = some (some (.nilFunc : Value)) := by kernel_rfl
theorem zs104 : (Try.prog.info? 104).map (fun i => (i.zero, i.size)) = some (some (.nilFunc : Value), 1) := by kernel_rfl
theorem on105 : isOne Try.prog 105 = true := by kernel_rfl
theorem sz105 : (Try.prog.info? 105).map (·.size) = some 1 := by kernel_rfl
theorem zr105 : (Try.prog.info? 105).map (·.zero) = some (some (.nilFunc : Value)) := by kernel_rfl
theorem zs105 : (Try.prog.info? 105).map (fun i => (i.zero, i.size)) = some (some (.nilFunc : Value), 1) := by kernel_rfl
theorem un106 : Try.prog.underlying 106 = some (.pointer 5) := Try.underlying106
theorem on106 : isOne Try.prog 106 = true := by kernel_rfl
theorem sz106 : (Try.prog.info? 106).map (·.size) = some 1 := by kernel_rfl
theorem zr106 : (Try.prog.info? 106).map (·.zero) = some (some (.pointer none : Value)) := by kernel_rfl
theorem zs106 : (Try.prog.info? 106).map (fun i => (i.zero, i.size)) = some (some (.pointer none : Value), 1) := by kernel_rfl
theorem on107 : isOne Try.prog 107 = true := by kernel_rfl
theorem sz107 : (Try.prog.info? 107).map (·.size) = some 1 := by kernel_rfl
theorem zr107 : (Try.prog.info? 107).map (·.zero) = some (some (.nilFunc : Value)) := by kernel_rfl
theorem zs107 : (Try.prog.info? 107).map (fun i => (i.zero, i.size)) = some (some (.nilFunc : Value), 1) := by kernel_rfl
theorem un108 : Try.prog.underlying 108 = some (.int .i64) := Try.underlying108
theorem on108 : isOne Try.prog 108 = true := by kernel_rfl
theorem sz108 : (Try.prog.info? 108).map (·.size) = some 1 := by kernel_rfl
theorem zr108 : (Try.prog.info? 108).map (·.zero) = some (some (.int .i64 0 : Value)) := by kernel_rfl
theorem zs108 : (Try.prog.info? 108).map (fun i => (i.zero, i.size)) = some (some (.int .i64 0 : Value), 1) := by kernel_rfl
theorem on110 : isOne Try.prog 110 = true := by kernel_rfl
theorem sz110 : (Try.prog.info? 110).map (·.size) = some 1 := by kernel_rfl
theorem zr110 : (Try.prog.info? 110).map (·.zero) = some (some (.nilFunc : Value)) := by kernel_rfl
theorem zs110 : (Try.prog.info? 110).map (fun i => (i.zero, i.size)) = some (some (.nilFunc : Value), 1) := by kernel_rfl
theorem on111 : isOne Try.prog 111 = true := by kernel_rfl
theorem sz111 : (Try.prog.info? 111).map (·.size) = some 1 := by kernel_rfl
theorem zr111 : (Try.prog.info? 111).map (·.zero) = some (some (.nilFunc : Value)) := by kernel_rfl
theorem zs111 : (Try.prog.info? 111).map (fun i => (i.zero, i.size)) = some (some (.nilFunc : Value), 1) := by kernel_rfl
theorem on112 : isOne Try.prog 112 = true := by kernel_rfl
theorem sz112 : (Try.prog.info? 112).map (·.size) = some 1 := by kernel_rfl
theorem zr112 : (Try.prog.info? 112).map (·.zero) = some (some (.nilFunc : Value)) := by kernel_rfl
theorem zs112 : (Try.prog.info? 112).map (fun i => (i.zero, i.size)) = some (some (.nilFunc : Value), 1) := by kernel_rfl
theorem on113 : isOne Try.prog 113 = true := by kernel_rfl
theorem sz113 : (Try.prog.info? 113).map (·.size) = some 1 := by kernel_rfl
theorem zr113 : (Try.prog.info? 113).map (·.zero) = some (some (.nilFunc : Value)) := by kernel_rfl
theorem zs113 : (Try.prog.info? 113).map (fun i => (i.zero, i.size)) = some (some (.nilFunc : Value), 1) := by kernel_rfl
theorem on115 : isOne Try.prog 115 = true := by kernel_rfl
theorem sz115 : (Try.prog.info? 115).map (·.size) = some 1 := by kernel_rfl
theorem zr115 : (Try.prog.info? 115).map (·.zero) = some (some (.nilFunc : Value)) := by kernel_rfl
theorem zs115 : (Try.prog.info? 115).map (fun i => (i.zero, i.size)) = some (some (.nilFunc : Value), 1) := by kernel_rfl
theorem on116 : isOne Try.prog 116 = true := by kernel_rfl
theorem sz116 : (Try.prog.info? 116).map (·.size) = some 1 := by kernel_rfl
theorem zr116 : (Try.prog.info? 116).map (·.zero) = some (some (.nilFunc : Value)) := by kernel_rfl
theorem zs116 : (Try.prog.info? 116).map (fun i => (i.zero, i.size)) = some (some (.nilFunc : Value), 1) := by kernel_rfl
theorem un117 : Try.prog.underlying 117 = some (.int .u32) := Try.underlying117
theorem on117 : isOne Try.prog 117 = true := by kernel_rfl
theorem sz117 : (Try.prog.info? 117).map (·.size) = some 1 := by kernel_rfl
theorem zr117 : (Try.prog.info? 117).map (·.zero) = some (some (.int .u32 0 : Value)) := by kernel_rfl
theorem zs117 : (Try.prog.info? 117).map (fun i => (i.zero, i.size)) = some (some (.int .u32 0 : Value), 1) := by kernel_rfl
theorem on118 : isOne Try.prog 118 = true := by kernel_rfl
theorem sz118 : (Try.prog.info? 118).map (·.size) = some 1 := by kernel_rfl
theorem zr118 : (Try.prog.info? 118).map (·.zero) = some (some (.nilFunc : Value)) := by kernel_rfl
theorem zs118 : (Try.prog.info? 118).map (fun i => (i.zero, i.size)) = some (some (.nilFunc : Value), 1) := by kernel_rfl
theorem on120 : isOne Try.prog 120 = true := by kernel_rfl
theorem sz120 : (Try.prog.info? 120).map (·.size) = some 1 := by kernel_rfl
theorem zr120 : (Try.prog.info? 120).map (·.zero) = some (some (.nilFunc : Value)) := by kernel_rfl
theorem zs120 : (Try.prog.info? 120).map (fun i => (i.zero, i.size)) = some (some (.nilFunc : Value), 1) := by kernel_rfl
theorem un121 : Try.prog.underlying 121 = some (.int .u64) := Try.underlying121
theorem on121 : isOne Try.prog 121 = true := by kernel_rfl
theorem sz121 : (Try.prog.info? 121).map (·.size) = some 1 := by kernel_rfl
theorem zr121 : (Try.prog.info? 121).map (·.zero) = some (some (.int .u64 0 : Value)) := by kernel_rfl
theorem zs121 : (Try.prog.info? 121).map (fun i => (i.zero, i.size)) = some (some (.int .u64 0 : Value), 1) := by kernel_rfl
theorem on122 : isOne Try.prog 122 = true := by kernel_rfl
theorem sz122 : (Try.prog.info? 122).map (·.size) = some 1 := by kernel_rfl
theorem zr122 : (Try.prog.info? 122).map (·.zero) = some (some (.nilFunc : Value)) := by kernel_rfl
theorem zs122 : (Try.prog.info? 122).map (fun i => (i.zero, i.size)) = some (some (.nilFunc : Value), 1) := by kernel_rfl
theorem on123 : isOne Try.prog 123 = true := by kernel_rfl
theorem sz123 : (Try.prog.info? 123).map (·.size) = some 1 := by kernel_rfl
theorem zr123 : (Try.prog.info? 123).map (·.zero) = some (some (.nilFunc : Value)) := by kernel_rfl
theorem zs123 : (Try.prog.info? 123).map (fun i => (i.zero, i.size)) = some (some (.nilFunc : Value), 1) := by kernel_rfl
theorem un124 : Try.prog.underlying 124 = some (.pointer 3) := Try.underlying124
theorem on124 : isOne Try.prog 124 = true := by kernel_rfl
theorem sz124 : (Try.prog.info? 124).map (·.size) = some 1 := by kernel_rfl
theorem zr124 : (Try.prog.info? 124).map (·.zero) = some (some (.pointer none : Value)) := by kernel_rfl
theorem zs124 : (Try.prog.info? 124).map (fun i => (i.zero, i.size)) = some (some (.pointer none : Value), 1) := by kernel_rfl
theorem on125 : isOne Try.prog 125 = true := by kernel_rfl
theorem sz125 : (Try.prog.info? 125).map (·.size) = some 1 := by kernel_rfl
theorem zr125 : (Try.prog.info? 125).map (·.zero) = some (some (.nilFunc : Value)) := by kernel_rfl
theorem zs125 : (Try.prog.info? 125).map (fun i => (i.zero, i.size)) = some (some (.nilFunc : Value), 1) := by kernel_rfl
theorem on126 : isOne Try.prog 126 = true := by kernel_rfl
theorem sz126 : (Try.prog.info? 126).map (·.size) = some 1 := by kernel_rfl
theorem zr126 : (Try.prog.info? 126).map (·.zero) = some (some (.nilFunc : Value)) := by kernel_rfl
theorem zs126 : (Try.prog.info? 126).map (fun i => (i.zero, i.size)) = some (some (.nilFunc : Value), 1) := by kernel_rfl
theorem un127 : Try.prog.underlying 127 = some (.pointer 121) := Try.underlying127
theorem on127 : isOne Try.prog 127 = true := by kernel_rfl
theorem sz127 : (Try.prog.info? 127).map (·.size) = some 1 := by kernel_rfl
theorem zr127 : (Try.prog.info? 127).map (·.zero) = some (some (.pointer none : Value)) := by kernel_rfl
theorem zs127 : (Try.prog.info? 127).map (fun i => (i.zero, i.size)) = some (some (.pointer none : Value), 1) := by kernel_rfl
theorem on128 : isOne Try.prog 128 = true := by kernel_rfl
theorem sz128 : (Try.prog.info? 128).map (·.size) = some 1 := by kernel_rfl
theorem zr128 : (Try.prog.info? 128).map (·.zero) = some (some (.nilFunc : Value)) := by kernel_rfl
theorem zs128 : (Try.prog.info? 128).map (fun i => (i.zero, i.size)) = some (some (.nilFunc : Value), 1) := by kernel_rfl
theorem ag129 : aggB Try.prog 129 4 = true := by kernel_rfl
theorem sz129 : (Try.prog.info? 129).map (·.size) = some 4 := by kernel_rfl
theorem fo129_0 : fieldOff Try.prog 129 0 = some 0 := by kernel_rfl
theorem fo129_1 : fieldOff Try.prog 129 1 = some 1 := by kernel_rfl
theorem fo129_2 : fieldOff Try.prog 129 2 = some 2 := by kernel_rfl
theorem fo129_3 : fieldOff Try.prog 129 3 = some 3 := by kernel_rfl
theorem zr129 : (Try.prog.info? 129).map (·.zero) = some (some (.agg #[.pointer none, .pointer none, .pointer none, .string ByteArray.empty] : Value)) := by kernel_rfl
theorem zs129 : (Try.prog.info? 129).map (fun i => (i.zero, i.size)) = some (some (.agg #[.pointer none, .pointer none, .pointer none, .string ByteArray.empty] : Value), 4) := by kernel_rfl
theorem ag130 : aggB Try.prog 130 4 = true := by kernel_rfl
theorem sz130 : (Try.prog.info? 130).map (·.size) = some 4 := by kernel_rfl
theorem fo130_0 : fieldOff Try.prog 130 0 = some 0 := by kernel_rfl
theorem fo130_1 : fieldOff Try.prog 130 1 = some 1 := by kernel_rfl
theorem fo130_2 : fieldOff Try.prog 130 2 = some 2 := by kernel_rfl
theorem fo130_3 : fieldOff Try.prog 130 3 = some 3 := by kernel_rfl
theorem zr130 : (Try.prog.info? 130).map (·.zero) = some (some (.agg #[.pointer none, .pointer none, .pointer none, .string ByteArray.empty] : Value)) := by kernel_rfl
theorem zs130 : (Try.prog.info? 130).map (fun i => (i.zero, i.size)) = some (some (.agg #[.pointer none, .pointer none, .pointer none, .string ByteArray.empty] : Value), 4) := by kernel_rfl
theorem un131 : Try.prog.underlying 131 = some (.array 0 16) := Try.underlying131
theorem sz131 : (Try.prog.info? 131).map (·.size) = some 0 := by kernel_rfl
theorem zr131 : (Try.prog.info? 131).map (·.zero) = some (some (.agg #[] : Value)) := by kernel_rfl
theorem zs131 : (Try.prog.info? 131).map (fun i => (i.zero, i.size)) = some (some (.agg #[] : Value), 0) := by kernel_rfl
theorem sz132 : (Try.prog.info? 132).map (·.size) = some 0 := by kernel_rfl
theorem zr132 : (Try.prog.info? 132).map (·.zero) = some (some (.agg #[] : Value)) := by kernel_rfl
theorem zs132 : (Try.prog.info? 132).map (fun i => (i.zero, i.size)) = some (some (.agg #[] : Value), 0) := by kernel_rfl
theorem sz133 : (Try.prog.info? 133).map (·.size) = some 0 := by kernel_rfl
theorem zr133 : (Try.prog.info? 133).map (·.zero) = some (some (.agg #[] : Value)) := by kernel_rfl
theorem zs133 : (Try.prog.info? 133).map (fun i => (i.zero, i.size)) = some (some (.agg #[] : Value), 0) := by kernel_rfl
theorem on134 : isOne Try.prog 134 = true := by kernel_rfl
theorem sz134 : (Try.prog.info? 134).map (·.size) = some 1 := by kernel_rfl
theorem zr134 : (Try.prog.info? 134).map (·.zero) = some (some (.nilFunc : Value)) := by kernel_rfl
theorem zs134 : (Try.prog.info? 134).map (fun i => (i.zero, i.size)) = some (some (.nilFunc : Value), 1) := by kernel_rfl
theorem un135 : Try.prog.underlying 135 = some (.int .u8) := Try.underlying135
theorem on135 : isOne Try.prog 135 = true := by kernel_rfl
theorem sz135 : (Try.prog.info? 135).map (·.size) = some 1 := by kernel_rfl
theorem zr135 : (Try.prog.info? 135).map (·.zero) = some (some (.int .u8 0 : Value)) := by kernel_rfl
theorem zs135 : (Try.prog.info? 135).map (fun i => (i.zero, i.size)) = some (some (.int .u8 0 : Value), 1) := by kernel_rfl
theorem un136 : Try.prog.underlying 136 = some (.int .u8) := Try.underlying136
theorem on136 : isOne Try.prog 136 = true := by kernel_rfl
theorem sz136 : (Try.prog.info? 136).map (·.size) = some 1 := by kernel_rfl
theorem zr136 : (Try.prog.info? 136).map (·.zero) = some (some (.int .u8 0 : Value)) := by kernel_rfl
theorem zs136 : (Try.prog.info? 136).map (fun i => (i.zero, i.size)) = some (some (.int .u8 0 : Value), 1) := by kernel_rfl
theorem on137 : isOne Try.prog 137 = true := by kernel_rfl
theorem sz137 : (Try.prog.info? 137).map (·.size) = some 1 := by kernel_rfl
theorem zr137 : (Try.prog.info? 137).map (·.zero) = some (some (.nilFunc : Value)) := by kernel_rfl
theorem zs137 : (Try.prog.info? 137).map (fun i => (i.zero, i.size)) = some (some (.nilFunc : Value), 1) := by kernel_rfl
theorem un138 : Try.prog.underlying 138 = some (.int .i32) := Try.underlying138
theorem on138 : isOne Try.prog 138 = true := by kernel_rfl
theorem sz138 : (Try.prog.info? 138).map (·.size) = some 1 := by kernel_rfl
theorem zr138 : (Try.prog.info? 138).map (·.zero) = some (some (.int .i32 0 : Value)) := by kernel_rfl
theorem zs138 : (Try.prog.info? 138).map (fun i => (i.zero, i.size)) = some (some (.int .i32 0 : Value), 1) := by kernel_rfl
theorem un139 : Try.prog.underlying 139 = some (.int .i32) := Try.underlying139
theorem on139 : isOne Try.prog 139 = true := by kernel_rfl
theorem sz139 : (Try.prog.info? 139).map (·.size) = some 1 := by kernel_rfl
theorem zr139 : (Try.prog.info? 139).map (·.zero) = some (some (.int .i32 0 : Value)) := by kernel_rfl
theorem zs139 : (Try.prog.info? 139).map (fun i => (i.zero, i.size)) = some (some (.int .i32 0 : Value), 1) := by kernel_rfl
theorem ag140 : aggB Try.prog 140 11 = true := by kernel_rfl
theorem sz140 : (Try.prog.info? 140).map (·.size) = some 11 := by kernel_rfl
theorem fo140_0 : fieldOff Try.prog 140 0 = some 0 := by kernel_rfl
theorem fo140_1 : fieldOff Try.prog 140 1 = some 1 := by kernel_rfl
theorem fo140_2 : fieldOff Try.prog 140 2 = some 2 := by kernel_rfl
theorem fo140_3 : fieldOff Try.prog 140 3 = some 3 := by kernel_rfl
theorem fo140_4 : fieldOff Try.prog 140 4 = some 4 := by kernel_rfl
theorem fo140_5 : fieldOff Try.prog 140 5 = some 5 := by kernel_rfl
theorem fo140_6 : fieldOff Try.prog 140 6 = some 6 := by kernel_rfl
theorem fo140_7 : fieldOff Try.prog 140 7 = some 7 := by kernel_rfl
theorem fo140_8 : fieldOff Try.prog 140 8 = some 8 := by kernel_rfl
theorem fo140_9 : fieldOff Try.prog 140 9 = some 9 := by kernel_rfl
theorem fo140_10 : fieldOff Try.prog 140 10 = some 10 := by kernel_rfl
theorem zr140 : (Try.prog.info? 140).map (·.zero) = some (some (.agg #[.int .u64 0, .int .u64 0, .int .u32 0, .int .u8 0, .int .u8 0, .int .u8 0, .int .u8 0, .nilFunc, .pointer none, .int .i32 0, .int .i32 0] : Value)) := by kernel_rfl
theorem zs140 : (Try.prog.info? 140).map (fun i => (i.zero, i.size)) = some (some (.agg #[.int .u64 0, .int .u64 0, .int .u32 0, .int .u8 0, .int .u8 0, .int .u8 0, .int .u8 0, .nilFunc, .pointer none, .int .i32 0, .int .i32 0] : Value), 11) := by kernel_rfl
theorem ag141 : aggB Try.prog 141 11 = true := by kernel_rfl
theorem sz141 : (Try.prog.info? 141).map (·.size) = some 11 := by kernel_rfl
theorem fo141_0 : fieldOff Try.prog 141 0 = some 0 := by kernel_rfl
theorem fo141_1 : fieldOff Try.prog 141 1 = some 1 := by kernel_rfl
theorem fo141_2 : fieldOff Try.prog 141 2 = some 2 := by kernel_rfl
theorem fo141_3 : fieldOff Try.prog 141 3 = some 3 := by kernel_rfl
theorem fo141_4 : fieldOff Try.prog 141 4 = some 4 := by kernel_rfl
theorem fo141_5 : fieldOff Try.prog 141 5 = some 5 := by kernel_rfl
theorem fo141_6 : fieldOff Try.prog 141 6 = some 6 := by kernel_rfl
theorem fo141_7 : fieldOff Try.prog 141 7 = some 7 := by kernel_rfl
theorem fo141_8 : fieldOff Try.prog 141 8 = some 8 := by kernel_rfl
theorem fo141_9 : fieldOff Try.prog 141 9 = some 9 := by kernel_rfl
theorem fo141_10 : fieldOff Try.prog 141 10 = some 10 := by kernel_rfl
theorem zr141 : (Try.prog.info? 141).map (·.zero) = some (some (.agg #[.int .u64 0, .int .u64 0, .int .u32 0, .int .u8 0, .int .u8 0, .int .u8 0, .int .u8 0, .nilFunc, .pointer none, .int .i32 0, .int .i32 0] : Value)) := by kernel_rfl
theorem zs141 : (Try.prog.info? 141).map (fun i => (i.zero, i.size)) = some (some (.agg #[.int .u64 0, .int .u64 0, .int .u32 0, .int .u8 0, .int .u8 0, .int .u8 0, .int .u8 0, .nilFunc, .pointer none, .int .i32 0, .int .i32 0] : Value), 11) := by kernel_rfl
theorem zb22_49 : (Try.prog.info? 49).map (fun i => (i.zero, i.size, i.bytes)) = some (some (.agg #[.int .u8 0, .int .u64 0, .int .i64 0, .int .i64 0, .slice none 0 0] : Value), 5, 56) := by kernel_rfl
theorem sl22 : SlT Try.prog 22 49 (.agg #[.int .u8 0, .int .u64 0, .int .i64 0, .int .i64 0, .slice none 0 0] : Value) 5 56 := SlT.mk' un22 zb22_49 rfl (by decide)
theorem zb25_34 : (Try.prog.info? 34).map (fun i => (i.zero, i.size, i.bytes)) = some (some (.agg #[.string ByteArray.empty] : Value), 1, 16) := by kernel_rfl
theorem sl25 : SlT Try.prog 25 34 (.agg #[.string ByteArray.empty] : Value) 1 16 := SlT.mk' un25 zb25_34 rfl (by decide)
theorem zb27_38 : (Try.prog.info? 38).map (fun i => (i.zero, i.size, i.bytes)) = some (some (.agg #[.int .u8 0, .int .u64 0, .slice none 0 0] : Value), 3, 40) := by kernel_rfl
theorem sl27 : SlT Try.prog 27 38 (.agg #[.int .u8 0, .int .u64 0, .slice none 0 0] : Value) 3 40 := SlT.mk' un27 zb27_38 rfl (by decide)
theorem zb28_38 : (Try.prog.info? 38).map (fun i => (i.zero, i.size, i.bytes)) = some (some (.agg #[.int .u8 0, .int .u64 0, .slice none 0 0] : Value), 3, 40) := by kernel_rfl
theorem sl28 : SlT Try.prog 28 38 (.agg #[.int .u8 0, .int .u64 0, .slice none 0 0] : Value) 3 40 := SlT.mk' un28 zb28_38 rfl (by decide)
theorem zb29_3 : (Try.prog.info? 3).map (fun i => (i.zero, i.size, i.bytes)) = some (some (.int .i64 0 : Value), 1, 8) := by kernel_rfl
theorem sl29 : SlT Try.prog 29 3 (.int .i64 0 : Value) 1 8 := SlT.mk' un29 zb29_3 rfl (by decide)
theorem zb44_4 : (Try.prog.info? 4).map (fun i => (i.zero, i.size, i.bytes)) = some (some (.bool false : Value), 1, 1) := by kernel_rfl
theorem sl44 : SlT Try.prog 44 4 (.bool false : Value) 1 1 := SlT.mk' un44 zb44_4 rfl (by decide)
theorem zb75_5 : (Try.prog.info? 5).map (fun i => (i.zero, i.size, i.bytes)) = some (some (.int .u8 0 : Value), 1, 1) := by kernel_rfl
theorem sl75 : SlT Try.prog 75 5 (.int .u8 0 : Value) 1 1 := SlT.mk' un75 zb75_5 rfl (by decide)
theorem zb85_9 : (Try.prog.info? 9).map (fun i => (i.zero, i.size, i.bytes)) = some (some (.string ByteArray.empty : Value), 1, 16) := by kernel_rfl
theorem sl85 : SlT Try.prog 85 9 (.string ByteArray.empty : Value) 1 16 := SlT.mk' un85 zb85_9 rfl (by decide)
theorem en3 : ∀ args w, (callFunc 3 args).run Try.prog w = .ok (.enter 3 args) w := enters Try.func3 (by kernel_rfl) rfl -- hailer/hailerlaw21.TermBuilds
theorem en4 : ∀ args w, (callFunc 4 args).run Try.prog w = .ok (.enter 4 args) w := enters Try.func4 (by kernel_rfl) rfl -- hailer/hailerlaw21.TermMore
theorem en5 : ∀ args w, (callFunc 5 args).run Try.prog w = .ok (.enter 5 args) w := enters Try.func5 (by kernel_rfl) rfl -- hailer/hailerlaw21.TermCloses
theorem en6 : ∀ args w, (callFunc 6 args).run Try.prog w = .ok (.enter 6 args) w := enters Try.func6 (by kernel_rfl) rfl -- hailer/hailerlaw21.known
theorem en7 : ∀ args w, (callFunc 7 args).run Try.prog w = .ok (.enter 7 args) w := enters Try.func7 (by kernel_rfl) rfl -- hailer/hailerlaw21.heavy
theorem en8 : ∀ args w, (callFunc 8 args).run Try.prog w = .ok (.enter 8 args) w := enters Try.func8 (by kernel_rfl) rfl -- hailer/hailerlaw21.play
theorem en9 : ∀ args w, (callFunc 9 args).run Try.prog w = .ok (.enter 9 args) w := enters Try.func9 (by kernel_rfl) rfl -- hailer/hailerref21.Play
theorem en10 : ∀ args w, (callFunc 10 args).run Try.prog w = .ok (.enter 10 args) w := enters Try.func10 (by kernel_rfl) rfl -- (hailer/term.Term).Parts
theorem en11 : ∀ args w, (callFunc 11 args).run Try.prog w = .ok (.enter 11 args) w := enters Try.func11 (by kernel_rfl) rfl -- (hailer/term.Term).Kind
theorem en12 : ∀ args w, (callFunc 12 args).run Try.prog w = .ok (.enter 12 args) w := enters Try.func12 (by kernel_rfl) rfl -- (hailer/term.Term).Number
theorem en13 : ∀ args w, (callFunc 13 args).run Try.prog w = .ok (.enter 13 args) w := enters Try.func13 (by kernel_rfl) rfl -- hailer/term.Close
theorem en14 : ∀ args w, (callFunc 14 args).run Try.prog w = .ok (.enter 14 args) w := enters Try.func14 (by kernel_rfl) rfl -- hailer/term.Atom
theorem en15 : ∀ args w, (callFunc 15 args).run Try.prog w = .ok (.enter 15 args) w := enters Try.func15 (by kernel_rfl) rfl -- hailer/term.Sealed
theorem en16 : ∀ args w, (callFunc 16 args).run Try.prog w = .ok (.enter 16 args) w := enters Try.func16 (by kernel_rfl) rfl -- hailer/term.Hash
theorem en17 : ∀ args w, (callFunc 17 args).run Try.prog w = .ok (.enter 17 args) w := enters Try.func17 (by kernel_rfl) rfl -- hailer/term.Public
theorem en18 : ∀ args w, (callFunc 18 args).run Try.prog w = .ok (.enter 18 args) w := enters Try.func18 (by kernel_rfl) rfl -- (*hailer/term.Known).Can
theorem en19 : ∀ args w, (callFunc 19 args).run Try.prog w = .ok (.enter 19 args) w := enters Try.func19 (by kernel_rfl) rfl -- hailer/term.Shared
theorem en20 : ∀ args w, (callFunc 20 args).run Try.prog w = .ok (.enter 20 args) w := enters Try.func20 (by kernel_rfl) rfl -- hailer/term.Pair
theorem en21 : ∀ args w, (callFunc 21 args).run Try.prog w = .ok (.enter 21 args) w := enters Try.func21 (by kernel_rfl) rfl -- (hailer/hailerref21.Pool).Close
theorem en22 : ∀ args w, (callFunc 22 args).run Try.prog w = .ok (.enter 22 args) w := enters Try.func22 (by kernel_rfl) rfl -- (hailer/hailerref21.Pool).Can
theorem en23 : ∀ args w, (callFunc 23 args).run Try.prog w = .ok (.enter 23 args) w := enters Try.func23 (by kernel_rfl) rfl -- (*hailer/term.Known).All
theorem en24 : ∀ args w, (callFunc 24 args).run Try.prog w = .ok (.enter 24 args) w := enters Try.func24 (by kernel_rfl) rfl -- hailer/hailerlaw21.row
theorem en25 : ∀ args w, (callFunc 25 args).run Try.prog w = .ok (.enter 25 args) w := enters Try.func25 (by kernel_rfl) rfl -- hailer/term.Split
theorem en26 : ∀ args w, (callFunc 26 args).run Try.prog w = .ok (.enter 26 args) w := enters Try.func26 (by kernel_rfl) rfl -- hailer/term.Open
theorem en27 : ∀ args w, (callFunc 27 args).run Try.prog w = .ok (.enter 27 args) w := enters Try.func27 (by kernel_rfl) rfl -- hailer/hailerlaw21.play$1
theorem en28 : ∀ args w, (callFunc 28 args).run Try.prog w = .ok (.enter 28 args) w := enters Try.func28 (by kernel_rfl) rfl -- (hailer/hailerref21.Pool).Build
theorem en29 : ∀ args w, (callFunc 29 args).run Try.prog w = .ok (.enter 29 args) w := enters Try.func29 (by kernel_rfl) rfl -- (hailer/hailerref21.Pool).Put
theorem en30 : ∀ args w, (callFunc 30 args).run Try.prog w = .ok (.enter 30 args) w := enters Try.func30 (by kernel_rfl) rfl -- (hailer/term.Term).Parts$1
theorem en31 : ∀ args w, (callFunc 31 args).run Try.prog w = .ok (.enter 31 args) w := enters Try.func31 (by kernel_rfl) rfl -- hailer/term.head
theorem en32 : ∀ args w, (callFunc 32 args).run Try.prog w = .ok (.enter 32 args) w := enters Try.func32 (by kernel_rfl) rfl -- hailer/term.size
theorem en33 : ∀ args w, (callFunc 33 args).run Try.prog w = .ok (.enter 33 args) w := enters Try.func33 (by kernel_rfl) rfl -- slices.Clone[[]hailer/term.Term,hailer/term.Term]
theorem en34 : ∀ args w, (callFunc 34 args).run Try.prog w = .ok (.enter 34 args) w := enters Try.func34 (by kernel_rfl) rfl -- (hailer/term.Term).two
theorem en35 : ∀ args w, (callFunc 35 args).run Try.prog w = .ok (.enter 35 args) w := enters Try.func35 (by kernel_rfl) rfl -- slices.DeleteFunc[[]hailer/term.Term,hailer/term.Term]
theorem en36 : ∀ args w, (callFunc 36 args).run Try.prog w = .ok (.enter 36 args) w := enters Try.func36 (by kernel_rfl) rfl -- hailer/term.Close$1
theorem en37 : ∀ args w, (callFunc 37 args).run Try.prog w = .ok (.enter 37 args) w := enters Try.func37 (by kernel_rfl) rfl -- hailer/term.build
theorem en38 : ∀ args w, (callFunc 38 args).run Try.prog w = .ok (.enter 38 args) w := enters Try.func38 (by kernel_rfl) rfl -- hailer/term.be
theorem en39 : ∀ args w, (callFunc 39 args).run Try.prog w = .ok (.enter 39 args) w := enters Try.func39 (by kernel_rfl) rfl -- slices.Sort[[]string,string]
theorem en40 : ∀ args w, (callFunc 40 args).run Try.prog w = .ok (.enter 40 args) w := enters Try.func40 (by kernel_rfl) rfl -- (hailer/hailerref21.Pool).ready
theorem en41 : ∀ args w, (callFunc 41 args).run Try.prog w = .ok (.enter 41 args) w := enters Try.func41 (by kernel_rfl) rfl -- (*hailer/term.Known).All$1
theorem en42 : ∀ args w, (callFunc 42 args).run Try.prog w = .ok (.enter 42 args) w := enters Try.func42 (by kernel_rfl) rfl -- maps.Keys[map[hailer/term.Term]struct{},hailer/term.Term,struct{}]
theorem en43 : ∀ args w, (callFunc 43 args).run Try.prog w = .ok (.enter 43 args) w := enters Try.func43 (by kernel_rfl) rfl -- hailer/hailerref21.round
theorem en44 : ∀ args w, (callFunc 44 args).run Try.prog w = .ok (.enter 44 args) w := enters Try.func44 (by kernel_rfl) rfl -- (hailer/hailerref21.Pool).find
theorem en45 : ∀ args w, (callFunc 45 args).run Try.prog w = .ok (.enter 45 args) w := enters Try.func45 (by kernel_rfl) rfl -- slices.Collect[hailer/term.Term]
theorem en46 : ∀ args w, (callFunc 46 args).run Try.prog w = .ok (.enter 46 args) w := enters Try.func46 (by kernel_rfl) rfl -- slices.IndexFunc[[]hailer/term.Term,hailer/term.Term]
theorem en47 : ∀ args w, (callFunc 47 args).run Try.prog w = .ok (.enter 47 args) w := enters Try.func47 (by kernel_rfl) rfl -- (*strings.Builder).WriteByte
theorem en48 : ∀ args w, (callFunc 48 args).run Try.prog w = .ok (.enter 48 args) w := enters Try.func48 (by kernel_rfl) rfl -- (*strings.Builder).Write
theorem en49 : ∀ args w, (callFunc 49 args).run Try.prog w = .ok (.enter 49 args) w := enters Try.func49 (by kernel_rfl) rfl -- (*strings.Builder).WriteString
theorem en50 : ∀ args w, (callFunc 50 args).run Try.prog w = .ok (.enter 50 args) w := enters Try.func50 (by kernel_rfl) rfl -- (*strings.Builder).String
theorem en51 : ∀ args w, (callFunc 51 args).run Try.prog w = .ok (.enter 51 args) w := enters Try.func51 (by kernel_rfl) rfl -- slices.pdqsortOrdered[string]
theorem en52 : ∀ args w, (callFunc 52 args).run Try.prog w = .ok (.enter 52 args) w := enters Try.func52 (by kernel_rfl) rfl -- math/bits.Len
theorem en53 : ∀ args w, (callFunc 53 args).run Try.prog w = .ok (.enter 53 args) w := enters Try.func53 (by kernel_rfl) rfl -- (hailer/hailerref21.Pool).public
theorem en54 : ∀ args w, (callFunc 54 args).run Try.prog w = .ok (.enter 54 args) w := enters Try.func54 (by kernel_rfl) rfl -- maps.Keys[map[hailer/term.Term]struct{},hailer/term.Term,struct{}]$1
theorem en55 : ∀ args w, (callFunc 55 args).run Try.prog w = .ok (.enter 55 args) w := enters Try.func55 (by kernel_rfl) rfl -- slices.AppendSeq[[]hailer/term.Term,hailer/term.Term]
theorem en56 : ∀ args w, (callFunc 56 args).run Try.prog w = .ok (.enter 56 args) w := enters Try.func56 (by kernel_rfl) rfl -- (*strings.Builder).copyCheck
theorem en57 : ∀ args w, (callFunc 57 args).run Try.prog w = .ok (.enter 57 args) w := enters Try.func57 (by kernel_rfl) rfl -- slices.insertionSortOrdered[string]
theorem en58 : ∀ args w, (callFunc 58 args).run Try.prog w = .ok (.enter 58 args) w := enters Try.func58 (by kernel_rfl) rfl -- slices.heapSortOrdered[string]
theorem en59 : ∀ args w, (callFunc 59 args).run Try.prog w = .ok (.enter 59 args) w := enters Try.func59 (by kernel_rfl) rfl -- slices.breakPatternsOrdered[string]
theorem en60 : ∀ args w, (callFunc 60 args).run Try.prog w = .ok (.enter 60 args) w := enters Try.func60 (by kernel_rfl) rfl -- slices.choosePivotOrdered[string]
theorem en61 : ∀ args w, (callFunc 61 args).run Try.prog w = .ok (.enter 61 args) w := enters Try.func61 (by kernel_rfl) rfl -- slices.reverseRangeOrdered[string]
theorem en62 : ∀ args w, (callFunc 62 args).run Try.prog w = .ok (.enter 62 args) w := enters Try.func62 (by kernel_rfl) rfl -- slices.partialInsertionSortOrdered[string]
theorem en63 : ∀ args w, (callFunc 63 args).run Try.prog w = .ok (.enter 63 args) w := enters Try.func63 (by kernel_rfl) rfl -- cmp.Less[string]
theorem en64 : ∀ args w, (callFunc 64 args).run Try.prog w = .ok (.enter 64 args) w := enters Try.func64 (by kernel_rfl) rfl -- slices.partitionEqualOrdered[string]
theorem en65 : ∀ args w, (callFunc 65 args).run Try.prog w = .ok (.enter 65 args) w := enters Try.func65 (by kernel_rfl) rfl -- slices.partitionOrdered[string]
theorem en66 : ∀ args w, (callFunc 66 args).run Try.prog w = .ok (.enter 66 args) w := enters Try.func66 (by kernel_rfl) rfl -- math/bits.Len32
theorem en67 : ∀ args w, (callFunc 67 args).run Try.prog w = .ok (.enter 67 args) w := enters Try.func67 (by kernel_rfl) rfl -- math/bits.Len64
theorem en69 : ∀ args w, (callFunc 69 args).run Try.prog w = .ok (.enter 69 args) w := enters Try.func69 (by kernel_rfl) rfl -- slices.siftDownOrdered[string]
theorem en70 : ∀ args w, (callFunc 70 args).run Try.prog w = .ok (.enter 70 args) w := enters Try.func70 (by kernel_rfl) rfl -- slices.nextPowerOfTwo
theorem en72 : ∀ args w, (callFunc 72 args).run Try.prog w = .ok (.enter 72 args) w := enters Try.func72 (by kernel_rfl) rfl -- slices.medianAdjacentOrdered[string]
theorem en73 : ∀ args w, (callFunc 73 args).run Try.prog w = .ok (.enter 73 args) w := enters Try.func73 (by kernel_rfl) rfl -- slices.medianOrdered[string]
theorem en74 : ∀ args w, (callFunc 74 args).run Try.prog w = .ok (.enter 74 args) w := enters Try.func74 (by kernel_rfl) rfl -- cmp.isNaN[string]
theorem en75 : ∀ args w, (callFunc 75 args).run Try.prog w = .ok (.enter 75 args) w := enters Try.func75 (by kernel_rfl) rfl -- slices.order2Ordered[string]
end Go.Proofs.Ytifhkjcimhhaiaa
