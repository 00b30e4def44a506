/- Both sums of texts: the walks. -/
import Derived.Test.YtfdnnlcfolgegaaShaG32
import Derived.Test.YtfdnnlcfolgegaaShaG64
namespace Go.Proofs.Ytfdnnlcfolgegaa
open Go Go.RowKit
def sum256 (msg : List Int) : List Int := sumF .u32 32 4 64 tn32 k32 h32 msg
def sum512 (msg : List Int) : List Int := sumF .u64 64 8 80 tn64 const64 first64 msg
theorem sum256_len (msg : List Int) : (sum256 msg).length = 32 := by
  unfold sum256 sumF
  rw [dgF_len, bkF_len]
  rfl
theorem sum512_len (msg : List Int) : (sum512 msg).length = 64 := by
  unfold sum512 sumF
  rw [dgF_len, bkF_len]
  rfl
theorem putAll {ys zs : List Value} {n : Nat} (h : zs.length = n) : zs.take 0 ++ ys ++ zs.drop (0 + n) = ys := by
  rw [List.drop_of_length_le (by omega)]
  simp

theorem sum256_any (ls : List (List Int)) (vs : List Value) (lv : Value) (hvl : vs.length = ls.length) (htot : ls.flatten.length ≤ 100000) (hmany : ls.length ≤ 100000) (w : World)
    (hlv : RdS w (fpL []) lv 1 ls.length vs) (hls : ∀ (i : Nat) v bs, vs[i]? = some v → ls[i]? = some bs → RdS w (fpL []) v 1 bs.length (ints .u8 bs)) (hw : OK w (fpL []) [] w) :
    Fn Try.prog 49 [lv] [] w (fun _ : Unit => True) (fun _ => .agg (ints .u8 (sum256 ls.flatten)).toArray) (fun _ => []) := by
  have hl : (ints .u8 (sum256 ls.flatten)).length = 32 := by rw [ints_length, sum256_len]
  refine enterF Try.func49 rfl Try.ntmps49 rfl hw ?_
  refine WC.seq ?_
  refine WC.region ?_
  refine WL.to (To.alloc zr46 rfl) rfl ?_ -- t2
  intro b2
  refine WL.nil ?_
  refine WC.seq ?_
  refine WC.region ?_
  refine WL.callC (xs := []) (cap := []) rfl rfl en63 (by repeat (first | exact TakeL.nil | (apply TakeL.cons; · repeat (first | exact Take1.head | apply Take1.tail)))) (fun w hw => narrow_any w hw.left.here) rfl ?_ -- t3 hailer/sha.narrow
  rintro ⟨mb, ⟨ah, ch⟩, ⟨ak, ck⟩⟩ -
  dsimp only [machR, List.cons_append, List.nil_append]
  refine WL.y (Yl.move rfl) rfl ?_ -- t4
  refine WL.callC (xs := [.tmp 3, .tmp 4]) (cap := []) rfl rfl en64 (by repeat (first | exact TakeL.nil | (apply TakeL.cons; · repeat (first | exact Take1.head | apply Take1.tail)))) (fun w hw => sum32_any mb ah ak ch ck tn32 tn32_ok h32 k32 ls vs lv rfl rfl hvl htot hmany w (hw.srcB (A := [_]) (by repeat (first | exact Take1.head | apply Take1.tail))) (hw.src (A := [_]) RdOf.own (by repeat (first | exact Take1.head | apply Take1.tail))) (hw.srcS (A := [_]) hlv) (fun i v bs h1 h2 => hw.srcS (A := [_]) (hls i v bs h1 h2)) hw.left.here) rfl ?_ -- t5 (*hailer/sha.machine[uint32]).sum
  rintro ⟨a5, c5⟩ -
  dsimp only [List.cons_append, List.nil_append]
  refine WL.y (Yl.arrAt un46 rfl (by omega)) rfl ?_
  refine WL.y (Yl.loadArr (cs := ints .u8 (sum256 ls.flatten)) (cs' := ints .u8 (sum256 ls.flatten)) ag46 (by omega) rfl (Reads.of (RdOf.own (v := .slice a5 (8 * 4) c5) (e := 5)) (by repeat (first | exact Take1.head | apply Take1.tail))) (by omega) (List.take_of_length_le (by omega))) rfl ?_
  refine WL.sto (Sto.agg sz46 rfl rfl (by repeat (first | exact Take1.head | apply Take1.tail)) (ints_one _ _) hl (by rfl) (putAll rfl)) (fun _ h => nomatch h) ?_ -- st 1
  refine WL.nil ?_
  refine WC.ret ?_
  repeat (first | (with_reducible refine peelT ?_) | (with_reducible refine peelB ?_) | (with_reducible refine peelTX ?_) | (with_reducible refine peelBX ?_) | (with_reducible refine peelBN ?_) | (with_reducible refine peelBO rfl ?_))
  exact retC1 (.inr rfl) Try.results49 ag46 rfl (by repeat (first | exact Take1.head | apply Take1.tail)) hl fun w' h => ⟨(), trivial, rfl, h.sub (by repeat (first | exact TakeL.nil | (apply TakeL.cons; · repeat (first | exact Take1.head | apply Take1.tail))))⟩

set_option maxRecDepth 100000 in
theorem abc256 : sum256 [97, 98, 99] = [0xba, 0x78, 0x16, 0xbf, 0x8f, 0x01, 0xcf, 0xea, 0x41, 0x41, 0x40, 0xde, 0x5d, 0xae, 0x22, 0x23, 0xb0, 0x03, 0x61, 0xa3, 0x96, 0x17, 0x7a, 0x9c, 0xb4, 0x10, 0xff, 0x61, 0xf2, 0x00, 0x15, 0xad] := by decide +kernel
set_option maxRecDepth 100000 in
theorem abc512 : sum512 [97, 98, 99] = [0xdd, 0xaf, 0x35, 0xa1, 0x93, 0x61, 0x7a, 0xba, 0xcc, 0x41, 0x73, 0x49, 0xae, 0x20, 0x41, 0x31, 0x12, 0xe6, 0xfa, 0x4e, 0x89, 0xa9, 0x7e, 0xa2, 0x0a, 0x9e, 0xee, 0xe6, 0x4b, 0x55, 0xd3, 0x9a, 0x21, 0x92, 0x99, 0x2a, 0x27, 0x4f, 0xc1, 0xa8, 0x36, 0xba, 0x3c, 0x23, 0xa3, 0xfe, 0xeb, 0xbd, 0x45, 0x4d, 0x44, 0x23, 0x64, 0x3c, 0xe8, 0x0e, 0x2a, 0x9a, 0xc9, 0x4f, 0xa5, 0x4c, 0xa4, 0x9f] := by decide +kernel
end Go.Proofs.Ytfdnnlcfolgegaa
