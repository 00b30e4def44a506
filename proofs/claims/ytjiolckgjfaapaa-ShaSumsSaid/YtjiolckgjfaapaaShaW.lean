/- ShaSums: the walk. -/
import Derived.Test.YtjiolckgjfaapaaShaQ32
import Derived.Test.YtjiolckgjfaapaaShaQ64
import Derived.Test.YtjiolckgjfaapaaShaM
import Derived.Test.YtjiolckgjfaapaaShaV
import Derived.Test.YtjiolckgjfaapaaLibX
namespace Go.Proofs.Ytjiolckgjfaapaa
open Go Go.RowKit

theorem shaSums_any (lv : Value) (vs : List Value) (ls : List (List Int)) (hvl : vs.length = ls.length) (hmany : ls.length ≤ 140737488355328) (hone : ∀ bs ∈ ls, BY bs ∧ bs.length ≤ 140737488355328) (w : World) (hw : OK w (fpL [textsR lv vs ls]) [textsR lv vs ls] w) :
    Fn Try.prog 3 [lv] [textsR lv vs ls] w (fun _ : Unit => True) (fun _ => .bool true) (fun _ => []) := by
  refine enterF Try.func3 rfl Try.ntmps3 rfl hw ?_
  refine WC.seq ?_
  refine WC.region ?_
  refine WL.y (Yl.assign rfl) rfl ?_ -- t2
  refine WL.nil ?_
  refine WC.seq ?_
  refine WC.seq ?_
  refine WC.region ?_
  refine WL.callC (xs := []) (cap := []) rfl rfl en5 (by repeat (first | exact TakeL.nil | (apply TakeL.cons; · repeat (first | exact Take1.head | apply Take1.tail)))) (fun w hw => known_any w hw.left.here) rfl ?_ -- t6 hailer/hailerlaw01.known
  rintro ⟨⟩ -
  refine WL.y (Yl.not rfl) rfl ?_ -- t7
  refine WL.know (t := 7) (b' := false) rfl (by first | rfl | (simp; done) | (simp; omega)) ?_
  refine WL.nil ?_
  refine WC.condF rfl (by first | rfl | (simp; done) | (simp; omega)) ?_
  refine WC.skip ?_
  refine WC.seq ?_
  refine WC.seq ?_
  refine WC.region ?_
  refine WL.y (Yl.move rfl) rfl ?_ -- t8
  refine WL.callC (xs := [.tmp 8, _]) (cap := []) rfl rfl en6 (by repeat (first | exact TakeL.nil | (apply TakeL.cons; · repeat (first | exact Take1.head | apply Take1.tail)))) (fun w hw => great_any ls vs lv 2000 (by omega) hvl (fun bs h => (hone bs h).2) hmany w (hw.src (A := []) RdOf.texts (by repeat (first | exact Take1.head | apply Take1.tail))) (fun i v bs h1 h2 => hw.src (A := []) (RdOf.text h1 h2) (by repeat (first | exact Take1.head | apply Take1.tail))) hw.left.here) rfl ?_ -- t9 hailer/hailerref01.Great
  rintro ⟨⟩ -
  refine WL.nil ?_
  refine WC.condD rfl (fun g9 => ?_) (fun g9 => ?_)
  · refine WC.seq ?_
    refine WC.region ?_
    refine WL.y (Yl.assign rfl) rfl ?_ -- t2
    refine WL.nil ?_
    refine WC.ret ?_
    repeat (first | (with_reducible refine peelT ?_) | (with_reducible refine peelB ?_) | (with_reducible refine peelTX ?_) | (with_reducible refine peelBX ?_) | (with_reducible refine peelBN ?_) | (with_reducible refine peelBO rfl ?_))
    exact ret1 (.inr rfl) Try.results3 rfl fun w' h => ⟨(), trivial, rfl, h.sub (by repeat (first | exact TakeL.nil | (apply TakeL.cons; · repeat (first | exact Take1.head | apply Take1.tail))))⟩
  · refine WC.skip ?_
    refine WC.seq ?_
    refine WC.region ?_
    have htot : ls.length + ls.flatten.length ≤ 2000 := by omega
    have hby : BY ls.flatten := fun x hx => by
      obtain ⟨bs, h1, h2⟩ := List.mem_flatten.1 hx
      exact (hone bs h1).1 x h2
    refine WL.y (Yl.move rfl) rfl ?_ -- t10
    refine WL.callC (xs := [.tmp 10]) (cap := []) rfl rfl en7 (by repeat (first | exact TakeL.nil | (apply TakeL.cons; · repeat (first | exact Take1.head | apply Take1.tail)))) (fun w hw => join_any ls vs lv hvl (by omega) (by omega) w (hw.src (A := []) RdOf.texts (by repeat (first | exact Take1.head | apply Take1.tail))) (fun i v bs h1 h2 => hw.src (A := []) (RdOf.text h1 h2) (by repeat (first | exact Take1.head | apply Take1.tail))) hw.left.here) rfl ?_ -- t11 hailer/hailerref01.Join
    rintro ⟨ja, jc⟩ -
    refine WL.y (Yl.assign rfl) rfl ?_ -- t3
    refine WL.nil ?_
    refine WC.seq ?_
    refine WC.region ?_
    refine WL.y (Yl.move rfl) rfl ?_ -- t12
    refine WL.callC (xs := [.tmp 12]) (cap := []) rfl rfl en8 (by repeat (first | exact TakeL.nil | (apply TakeL.cons; · repeat (first | exact Take1.head | apply Take1.tail)))) (fun w hw => sum256_any ls vs lv hvl (by omega) (by omega) w (hw.src (A := []) RdOf.texts (by repeat (first | exact Take1.head | apply Take1.tail))) (fun i v bs h1 h2 => hw.src (A := []) (RdOf.text h1 h2) (by repeat (first | exact Take1.head | apply Take1.tail))) hw.left.here) rfl ?_ -- t13 hailer/sha.Sum256
    rintro ⟨⟩ -
    refine WL.y (Yl.move rfl) rfl ?_ -- t14
    refine WL.callC (xs := [.tmp 14]) (cap := []) rfl rfl en9 (by repeat (first | exact TakeL.nil | (apply TakeL.cons; · repeat (first | exact Take1.head | apply Take1.tail)))) (fun w hw => sum512_any ls vs lv hvl (by omega) (by omega) w (hw.src (A := []) RdOf.texts (by repeat (first | exact Take1.head | apply Take1.tail))) (fun i v bs h1 h2 => hw.src (A := []) (RdOf.text h1 h2) (by repeat (first | exact Take1.head | apply Take1.tail))) hw.left.here) rfl ?_ -- t15 hailer/sha.Sum512
    rintro ⟨⟩ -
    obtain ⟨all, hall⟩ : ∃ all, ls.flatten = all := ⟨_, rfl⟩
    rw [hall] at htot hby ⊢
    refine WL.to (To.alloc zr27 rfl) rfl ?_ -- t4
    intro b4
    refine WL.to (To.alloc zr29 rfl) rfl ?_ -- t5
    intro b5
    refine WL.sto (Sto.agg sz27 rfl rfl (by repeat (first | exact Take1.head | apply Take1.tail)) (ints_one _ _) (by rw [ints_length, sum256_len]) (by rfl) (putAll rfl)) (fun _ h => nomatch h) ?_ -- st 1
    refine WL.sto (Sto.agg sz29 rfl rfl (by repeat (first | exact Take1.head | apply Take1.tail)) (ints_one _ _) (by rw [ints_length, sum512_len]) (by rfl) (putAll rfl)) (fun _ h => nomatch h) ?_ -- st 2
    refine WL.nil ?_
    refine WC.seq ?_
    refine WC.drawAny (Hs := [blkR b4 27 (ints .u8 (sum256 all)), blkR b5 29 (ints .u8 (sum512 all)), ownR (.slice ja all.length jc) 5 1 all.length (ints .u8 all)]) mixed (by kernel_rfl) ⟨_, (by repeat (first | exact TakeL.nil | (apply TakeL.cons; · repeat (first | exact Take1.head | apply Take1.tail))))⟩ ?_
    refine WD.take 0 rfl (by kernel_rfl) (by kernel_rfl) (by kernel_rfl) rfl rfl (Yl.sliceArr un27 sz5 (by decide) rfl) rfl ?_ -- t16
    refine WD.take 1 rfl (by kernel_rfl) (by kernel_rfl) (by kernel_rfl) rfl rfl (Yl.toStr un25 un5 un9 rfl ((Reads.of (RdOf.blk (b := b4) (off := 0) (n := 32) (cap := 32) (size := 1) (cs := ints .u8 (sum256 all)) (cs' := ints .u8 (sum256 all)) (Nat.le_refl _) (by unfold maxLen; omega) (by rw [ints_length, sum256_len]; omega) (by rw [List.drop_zero, List.take_of_length_le (by rw [ints_length, sum256_len]; omega)])) (by repeat (first | exact Take1.head | apply Take1.tail))).len (sum256_len _).symm)) rfl ?_ -- t17
    refine WD.take 2 rfl (by kernel_rfl) (by kernel_rfl) (by kernel_rfl) rfl rfl (Yl.move rfl) rfl ?_ -- t18
    refine WD.one 3 (by kernel_rfl) ?_
    refine WO.callC (xs := [.tmp 18, _]) (cap := []) rfl .no rfl rfl en10 (by repeat (first | exact TakeL.nil | (apply TakeL.cons; · repeat (first | exact Take1.head | apply Take1.tail)))) (fun w hw => rsum32_any all _ (by omega) w (hw.src (A := []) RdOf.own (by repeat (first | exact Take1.head | apply Take1.tail))) hw.left.here) rfl (fun _ => ⟨_, (by repeat (first | exact TakeL.nil | (apply TakeL.cons; · repeat (first | exact Take1.head | apply Take1.tail))))⟩) ?_ -- t19 hailer/hailerref01.Sum
    rintro ⟨a19, c19⟩ -
    dsimp only
    rw [← sum256_eq hby (by omega)]
    refine WD.one 4 (by kernel_rfl) ?_
    refine WO.y rfl rfl .no (Yl.toStr un25 un5 un9 rfl ((Reads.of RdOf.own (by repeat (first | exact Take1.head | apply Take1.tail))).len (sum256_len _).symm)) rfl ?_ -- t20
    refine WD.take 5 rfl (by kernel_rfl) (by kernel_rfl) (by kernel_rfl) rfl rfl (Yl.sEq rfl rfl) rfl ?_ -- t21
    refine WD.know (t := 21) (b' := true) rfl (by simp) ?_
    refine WD.take 6 rfl (by kernel_rfl) (by kernel_rfl) (by kernel_rfl) rfl rfl (Yl.move rfl) rfl ?_ -- t22
    refine WD.takeOn 7 rfl (by kernel_rfl) (by kernel_rfl) (by kernel_rfl) rfl rfl rfl rfl (Yl.sliceArr un29 sz5 (by decide) rfl) rfl ?_ -- t23
    refine WD.takeOn 8 rfl (by kernel_rfl) (by kernel_rfl) (by kernel_rfl) rfl rfl rfl rfl (Yl.toStr un25 un5 un9 rfl ((Reads.of (RdOf.blk (b := b5) (off := 0) (n := 64) (cap := 64) (size := 1) (cs := ints .u8 (sum512 all)) (cs' := ints .u8 (sum512 all)) (Nat.le_refl _) (by unfold maxLen; omega) (by rw [ints_length, sum512_len]; omega) (by rw [List.drop_zero, List.take_of_length_le (by rw [ints_length, sum512_len]; omega)])) (by repeat (first | exact Take1.head | apply Take1.tail))).len (sum512_len _).symm)) rfl ?_ -- t24
    refine WD.takeOn 9 rfl (by kernel_rfl) (by kernel_rfl) (by kernel_rfl) rfl rfl rfl rfl (Yl.move rfl) rfl ?_ -- t25
    refine WD.one 10 (by kernel_rfl) ?_
    refine WO.callC (xs := [.tmp 25, _]) (cap := []) rfl (.on rfl rfl) rfl rfl en10 (by repeat (first | exact TakeL.nil | (apply TakeL.cons; · repeat (first | exact Take1.head | apply Take1.tail)))) (fun w hw => rsum64_any all _ (by omega) w (hw.src (A := []) RdOf.own (by repeat (first | exact Take1.head | apply Take1.tail))) hw.left.here) rfl (fun _ => ⟨_, (by repeat (first | exact TakeL.nil | (apply TakeL.cons; · repeat (first | exact Take1.head | apply Take1.tail))))⟩) ?_ -- t26 hailer/hailerref01.Sum
    rintro ⟨a26, c26⟩ -
    dsimp only
    rw [← sum512_eq hby (by omega)]
    refine WD.one 11 (by kernel_rfl) ?_
    refine WO.y rfl rfl (.on rfl rfl) (Yl.toStr un25 un5 un9 rfl ((Reads.of RdOf.own (by repeat (first | exact Take1.head | apply Take1.tail))).len (sum512_len _).symm)) rfl ?_ -- t27
    refine WD.takeOn 12 rfl (by kernel_rfl) (by kernel_rfl) (by kernel_rfl) rfl rfl rfl rfl (Yl.sEq rfl rfl) rfl ?_ -- t28
    refine WD.know (t := 28) (b' := true) rfl (by simp) ?_
    refine WD.take 13 rfl (by kernel_rfl) (by kernel_rfl) (by kernel_rfl) rfl rfl (Yl.pickT rfl rfl) rfl ?_ -- t29
    refine WD.take 14 rfl (by kernel_rfl) (by kernel_rfl) (by kernel_rfl) rfl rfl (Yl.assign rfl) rfl ?_ -- t2
    refine WD.done (by kernel_rfl) ?_
    refine WC.ret ?_
    repeat (first | (with_reducible refine peelT ?_) | (with_reducible refine peelB ?_) | (with_reducible refine peelTX ?_) | (with_reducible refine peelBX ?_) | (with_reducible refine peelBN ?_) | (with_reducible refine peelBO rfl ?_))
    exact ret1 (.inr rfl) Try.results3 rfl fun w' h => ⟨(), trivial, rfl, h.sub (by repeat (first | exact TakeL.nil | (apply TakeL.cons; · repeat (first | exact Take1.head | apply Take1.tail))))⟩
end Go.Proofs.Ytjiolckgjfaapaa
