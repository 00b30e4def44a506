/- Policies: Ask, the edges of a day, what a rule decides: the walks. -/
import Derived.Test.YtnlibngncicobaaPolE
namespace Go.Proofs.Ytnlibngncicobaa
open Go Go.RowKit
theorem askNil_any (a now : Int) (w : World) (hw : OK w (fpL []) [] w) :
    Fn Try.prog 25 [.pointer none, .int .u8 a, .int .u64 now] [] w (fun _ : Unit => True) (fun _ => .tuple #[.int .u8 0, .int .i64 (-1)]) (fun _ => []) := by
  refine enterF Try.func25 rfl Try.ntmps25 rfl hw ?_
  refine WC.seq ?_
  refine WC.region ?_
  refine WL.to (To.box (cs := [.int .u8 a]) rfl rfl) rfl ?_
  intro b4
  refine WL.to (To.box (cs := [.int .u64 now]) rfl rfl) rfl ?_
  intro b5
  refine WL.y (Yl.assign rfl) rfl ?_
  refine WL.y (Yl.assign rfl) rfl ?_
  refine WL.nil ?_
  refine WC.seq ?_
  refine WC.seq ?_
  refine WC.region ?_
  refine WL.y (Yl.move rfl) rfl ?_
  refine WL.y (Yl.nilEq un33 rfl rfl) rfl ?_
  refine WL.know (t := 10) (b' := true) rfl (by first | rfl | (simp; done) | (simp; omega)) ?_
  refine WL.nil ?_
  refine WC.condT rfl (by first | rfl | (simp; done) | (simp; omega)) ?_
  refine WC.seq ?_
  refine WC.region ?_
  refine WL.y (Yl.assign rfl) rfl ?_
  refine WL.y (Yl.assign rfl) rfl ?_
  refine WL.nil ?_
  refine WC.ret ?_
  repeat (first | (with_reducible refine peelT ?_) | (with_reducible refine peelB ?_) | (with_reducible refine peelTX ?_) | (with_reducible refine peelBX ?_) | (with_reducible refine peelBN ?_) | (with_reducible refine peelBO rfl ?_))
  exact ret2 (.inr rfl) Try.results25 rfl rfl fun w' h => ⟨(), trivial, rfl, h.sub (by repeat (first | exact TakeL.nil | (apply TakeL.cons; · repeat (first | exact Take1.head | apply Take1.tail))))⟩
theorem atI_some {o : Option Nat} (h : ¬ atI o = -1) : ∃ i, o = some i := by
  cases o with
  | none => exact absurd rfl h
  | some i => exact ⟨i, rfl⟩
theorem atI_none {o : Option Nat} (h : atI o = -1) : o = none := by
  cases o with
  | none => rfl
  | some i =>
    have : (i : Int) = -1 := h
    omega
set_option maxRecDepth 100000 in
theorem ask_any (b : Nat) (ao : Option Addr) (ca : Nat) (p : Po) (a now : Int) (ha : 0 ≤ a) (hn : 0 ≤ now ∧ now < 18446744073709551616) (hp : p.ok) (w : World) (hw : OK w (fpL [roR (blkR b 80 (p.cells (.slice ao p.rl.length ca))), rdR (.slice ao p.rl.length ca) 5 p.rl.length (vcs ruV p.rl)]) [roR (blkR b 80 (p.cells (.slice ao p.rl.length ca))), rdR (.slice ao p.rl.length ca) 5 p.rl.length (vcs ruV p.rl)] w) :
    Fn Try.prog 25 [.pointer (some ⟨b, 0, none⟩), .int .u8 a, .int .u64 now] [roR (blkR b 80 (p.cells (.slice ao p.rl.length ca))), rdR (.slice ao p.rl.length ca) 5 p.rl.length (vcs ruV p.rl)] w (fun _ : Unit => True) (fun _ => .tuple #[.int .u8 (askU p a now).1, .int .i64 (askU p a now).2]) (fun _ => []) := by
  obtain ⟨j, rfl⟩ : ∃ j : Nat, a = (j : Int) := ⟨a.toNat, by omega⟩
  have hsz := hp.sz
  have hro := UOk.of hp
  have hln := hp.len
  refine enterF Try.func25 rfl Try.ntmps25 rfl hw ?_
  refine WC.seq ?_
  refine WC.region ?_
  refine WL.to (To.box (cs := [.int .u8 (j : Int)]) rfl rfl) rfl ?_
  intro b4
  refine WL.to (To.box (cs := [.int .u64 now]) rfl rfl) rfl ?_
  intro b5
  refine WL.y (Yl.assign rfl) rfl ?_
  refine WL.y (Yl.assign rfl) rfl ?_
  refine WL.nil ?_
  refine WC.seq ?_
  refine WC.seq ?_
  refine WC.region ?_
  refine WL.y (Yl.move rfl) rfl ?_
  refine WL.y (Yl.nilEq un33 rfl rfl) rfl ?_
  refine WL.know (t := 10) (b' := false) rfl (by first | rfl | (simp; done) | (simp; omega)) ?_
  refine WL.nil ?_
  refine WC.condF rfl (by first | rfl | (simp; done) | (simp; omega)) ?_
  refine WC.skip ?_
  refine WC.seq ?_
  refine WC.view (fun w h => h.roOne (r := blkR b4 5 [.int .u8 (j : Int)]) (by repeat (first | exact Take1.head | apply Take1.tail))) ?_
  refine WC.view (fun w h => h.roOne (r := blkR b5 25 [.int .u64 now]) (by repeat (first | exact Take1.head | apply Take1.tail))) ?_
  refine WC.view (fun w h => h.dup (r := roR (blkR b4 5 [.int .u8 (j : Int)])) (by repeat (first | exact Take1.head | apply Take1.tail)) (fun _ h => h)) ?_
  refine WC.view (fun w h => h.dup (r := roR (blkR b5 25 [.int .u64 now])) (by repeat (first | exact Take1.head | apply Take1.tail)) (fun _ h => h)) ?_
  refine WC.view (fun w h => OK.bunO2 (r := roR (blkR b4 5 [.int .u8 (j : Int)])) (s := roR (blkR b5 25 [.int .u64 now])) h (by repeat (first | exact TakeL.nil | (apply TakeL.cons; · repeat (first | exact Take1.head | apply Take1.tail))))) ?_
  refine WC.view (fun w h => h.dup (r := roR (blkR b 80 (p.cells (.slice ao p.rl.length ca)))) (by repeat (first | exact Take1.head | apply Take1.tail)) (fun _ h => h)) ?_
  refine WC.view (fun w h => h.dup (r := rdR (.slice ao p.rl.length ca) 5 p.rl.length (vcs ruV p.rl)) (by repeat (first | exact Take1.head | apply Take1.tail)) (fun _ h => h)) ?_
  refine WC.region ?_
  refine WL.y (Yl.move rfl) rfl ?_
  refine WL.y (Yl.makeFunc (xs := []) (ys := [.tmp 4, .tmp 5]) rfl rfl) rfl ?_
  refine WL.callC (xs := [.tmp 11, .tmp 12]) (cap := []) rfl rfl en56 (by repeat (first | exact TakeL.nil | (apply TakeL.cons; · repeat (first | exact Take1.head | apply Take1.tail)))) (fun w hw => first_any [roR (blkR b4 5 [.int .u8 (j : Int)]), roR (blkR b5 25 [.int .u64 now])] 57 [.pointer (some ⟨b4, 0, none⟩), .pointer (some ⟨b5, 0, none⟩)] (fun r => fitU r (j : Int) now) (predAsk (j : Int) now hn b4 b5) b ao ca p hro (by omega) w hw.left.here) rfl ?_
  rintro ⟨⟩ -
  rw [show (p.rl.findIdx? fun r => fitU r (j : Int) now) = firU p.rl (j : Int) now from rfl]
  dsimp only [List.cons_append, List.nil_append]
  refine WL.y (Yl.assign rfl) rfl ?_
  refine WL.nil ?_
  refine WC.seq ?_
  refine WC.seq ?_
  refine WC.region ?_
  refine WL.y (Yl.move rfl) rfl ?_
  refine WL.y (Yl.eql rfl rfl) rfl ?_
  refine WL.nil ?_
  refine WC.condD rfl (fun g15 => ?_) (fun g15 => ?_)
  · refine WC.seq ?_
    refine WC.region ?_
    refine WL.y (Yl.move rfl) rfl ?_
    refine WL.y (Yl.nilCheck rfl) rfl ?_
    refine WL.y (Yl.field fo80_0 rfl) rfl ?_
    refine WL.y (Yl.loadRo on5 rfl (by repeat (first | exact Take1.head | apply Take1.tail)) (by rfl)) rfl ?_
    refine WL.y (Yl.assign rfl) rfl ?_
    refine WL.y (Yl.assign rfl) rfl ?_
    refine WL.nil ?_
    refine WC.ret ?_
    repeat (first | (with_reducible refine peelT ?_) | (with_reducible refine peelB ?_) | (with_reducible refine peelTX ?_) | (with_reducible refine peelBX ?_) | (with_reducible refine peelBN ?_) | (with_reducible refine peelBO rfl ?_))
    have hf := atI_none g15
    unfold askU
    rw [hf]
    exact ret2 (.inr rfl) Try.results25 rfl rfl fun w' h => ⟨(), trivial, rfl, h.sub (by repeat (first | exact TakeL.nil | (apply TakeL.cons; · repeat (first | exact Take1.head | apply Take1.tail))))⟩
  · refine WC.skip ?_
    refine WC.seq ?_
    obtain ⟨i, hf⟩ := atI_some g15
    have hil := fir_lt hf
    obtain ⟨x, hx0⟩ : ∃ x, p.rl[i]? = some x := ⟨_, List.getElem?_eq_getElem hil⟩
    have hxd : p.rl.getD i Ru.zero = x := by simp [List.getD, hx0]
    have hask : askU p (j : Int) now = ((if agU p x (j : Int) now then 1 else x.dO), (i : Int)) := by unfold askU; rw [hf]; dsimp only; rw [hxd]
    rw [hf]
    dsimp only [atI]
    rw [hask]
    refine WC.region ?_
    refine WL.y (Yl.move rfl) rfl ?_
    refine WL.y (Yl.nilCheck rfl) rfl ?_
    refine WL.y (Yl.field fo80_1 rfl) rfl ?_
    refine WL.y (Yl.loadRo on64 rfl (by repeat (first | exact Take1.head | apply Take1.tail)) (by rfl)) rfl ?_
    refine WL.y (Yl.move rfl) rfl ?_
    refine WL.y (Yl.index un64 sz24 rfl rfl (Reads.of (r := rdR (.slice ao p.rl.length ca) 5 p.rl.length (vcs ruV p.rl)) RdOf.rd' (by repeat (first | exact Take1.head | apply Take1.tail))) rfl (by omega)) rfl ?_
    refine WL.y (Yl.loadV (j := i) (u := x) vtU hro rfl (Reads.of (r := rdR (.slice ao p.rl.length ca) 5 p.rl.length (vcs ruV p.rl)) RdOf.rd' (by repeat (first | exact Take1.head | apply Take1.tail))) rfl hx0) rfl ?_
    refine WL.to (To.alloc (cs := Ru.zero.cells) zr24 rfl) rfl ?_
    intro b8
    refine WL.sto (Sto.agg sz24 rfl rfl (by repeat (first | exact Take1.head | apply Take1.tail)) (Ru.ones _) (Ru.len x) (by rfl) (Ru.all Ru.zero x.cells (Ru.len x))) (fun _ h => nomatch h) ?_
    refine WL.nil ?_
    refine WC.seq ?_
    refine WC.seq ?_
    refine WC.drawRead mixed (by kernel_rfl) ?_
    refine WH.y (Yl.field fo24_4 rfl) rfl ?_
    refine WH.y (Yl.load on4 rfl (by repeat (first | exact Take1.head | apply Take1.tail)) (by rfl)) rfl ?_
    refine WH.y (Yl.move rfl) rfl ?_
    refine WH.both (t := 29) rfl (fun g29 => ?_) (fun g29 => ?_)
    · refine WH.on rfl rfl ?_
      refine WH.y (Yl.loadRo on5 rfl (by repeat (first | exact Take1.head | apply Take1.tail)) (by rfl)) rfl ?_
      refine WH.on rfl rfl ?_
      refine WH.y (Yl.lss rfl rfl) rfl ?_
      refine WH.y (Yl.pickT rfl rfl) rfl ?_
      refine WH.y (Yl.move rfl) rfl ?_
      refine WH.both (t := 33) rfl (fun g33 => ?_) (fun g33 => ?_)
      · refine WH.on rfl rfl ?_
        refine WH.y (Yl.move rfl) rfl ?_
        refine WH.on rfl rfl ?_
        refine WH.y (Yl.loadRo on5 rfl (by repeat (first | exact Take1.head | apply Take1.tail)) (by rfl)) rfl ?_
        refine WH.on rfl rfl ?_
        refine WH.y (Yl.nilCheck rfl) rfl ?_
        refine WH.on rfl rfl ?_
        refine WH.y (Yl.field fo80_3 rfl) rfl ?_
        refine WH.on rfl rfl ?_
        have hj8 : j < 8 := by have := g33; simp at this; omega
        refine WH.y (Yl.indexA un39 sz4 rfl rfl rfl (by omega)) rfl ?_
        refine WH.on rfl rfl ?_
        refine WH.y (Yl.loadRo on4 rfl (by repeat (first | exact Take1.head | apply Take1.tail)) (Po.atN hsz _ hj8)) rfl ?_
        refine WH.y (Yl.pickT rfl rfl) rfl ?_
        refine WH.y (Yl.move rfl) rfl ?_
        refine WH.both (t := 41) rfl (fun g41 => ?_) (fun g41 => ?_)
        · refine WH.on rfl rfl ?_
          refine WH.y (Yl.move rfl) rfl ?_
          refine WH.on rfl rfl ?_
          refine WH.y (Yl.loadRo on5 rfl (by repeat (first | exact Take1.head | apply Take1.tail)) (by rfl)) rfl ?_
          refine WH.on rfl rfl ?_
          refine WH.y (Yl.nilCheck rfl) rfl ?_
          refine WH.on rfl rfl ?_
          refine WH.y (Yl.field fo80_2 rfl) rfl ?_
          refine WH.on rfl rfl ?_
          refine WH.y (Yl.indexA un40 sz25 rfl rfl rfl (by omega)) rfl ?_
          refine WH.on rfl rfl ?_
          refine WH.y (Yl.loadRo on25 rfl (by repeat (first | exact Take1.head | apply Take1.tail)) (Po.atL hsz _ hj8)) rfl ?_
          refine WH.on rfl rfl ?_
          refine WH.y (Yl.loadRo on25 rfl (by repeat (first | exact Take1.head | apply Take1.tail)) (by rfl)) rfl ?_
          refine WH.on rfl rfl ?_
          refine WH.y (Yl.leq rfl rfl) rfl ?_
          refine WH.y (Yl.pickT rfl rfl) rfl ?_
          refine WH.y (Yl.move rfl) rfl ?_
          refine WH.both (t := 51) rfl (fun g51 => ?_) (fun g51 => ?_)
          · refine WH.on rfl rfl ?_
            refine WH.y (Yl.loadRo on25 rfl (by repeat (first | exact Take1.head | apply Take1.tail)) (by rfl)) rfl ?_
            refine WH.on rfl rfl ?_
            refine WH.y (Yl.move rfl) rfl ?_
            refine WH.on rfl rfl ?_
            refine WH.y (Yl.loadRo on5 rfl (by repeat (first | exact Take1.head | apply Take1.tail)) (by rfl)) rfl ?_
            refine WH.on rfl rfl ?_
            refine WH.y (Yl.nilCheck rfl) rfl ?_
            refine WH.on rfl rfl ?_
            refine WH.y (Yl.field fo80_2 rfl) rfl ?_
            refine WH.on rfl rfl ?_
            refine WH.y (Yl.indexA un40 sz25 rfl rfl rfl (by omega)) rfl ?_
            refine WH.on rfl rfl ?_
            refine WH.y (Yl.loadRo on25 rfl (by repeat (first | exact Take1.head | apply Take1.tail)) (Po.atL hsz _ hj8)) rfl ?_
            refine WH.on rfl rfl ?_
            have hle : p.la.getD j 0 ≤ now := by have := g51; simp at this; simpa using this
            have hlar := hp.lar _ (List.mem_of_getElem? (getD_of (show j < p.la.length by rw [hsz.la]; exact hj8)))
            refine WH.y (Yl.sub rfl rfl (u64_in _ (by omega))) rfl ?_
            refine WH.on rfl rfl ?_
            refine WH.y (Yl.leq rfl rfl) rfl ?_
            refine WH.y (Yl.pickT rfl rfl) rfl ?_
            refine WH.nil ?_
            refine WC.condD rfl (fun g61 => ?_) (fun g61 => ?_)
            · refine WC.seq ?_
              refine WC.region ?_
              refine WL.y (Yl.move rfl) rfl ?_
              refine WL.y (Yl.assign rfl) rfl ?_
              refine WL.y (Yl.assign rfl) rfl ?_
              refine WL.nil ?_
              refine WC.ret ?_
              repeat (first | (with_reducible refine peelT ?_) | (with_reducible refine peelB ?_) | (with_reducible refine peelTX ?_) | (with_reducible refine peelBX ?_) | (with_reducible refine peelBN ?_) | (with_reducible refine peelBO rfl ?_))
              first
              | (have e : agU p x (j : Int) now = true := by unfold agU; simp_all <;> (intros; omega)
                 rw [e]
                 exact ret2 (.inr rfl) Try.results25 rfl rfl fun w' h => ⟨(), trivial, rfl, h.sub (by repeat (first | exact TakeL.nil | (apply TakeL.cons; · repeat (first | exact Take1.head | apply Take1.tail))))⟩)
              | (have e : agU p x (j : Int) now = false := by unfold agU; simp_all <;> (intros; omega)
                 rw [e]
                 exact ret2 (.inr rfl) Try.results25 rfl rfl fun w' h => ⟨(), trivial, rfl, h.sub (by repeat (first | exact TakeL.nil | (apply TakeL.cons; · repeat (first | exact Take1.head | apply Take1.tail))))⟩)
            · refine WC.skip ?_
              refine WC.seq ?_
              refine WC.region ?_
              refine WL.y (Yl.field fo24_3 rfl) rfl ?_
              refine WL.y (Yl.load on5 rfl (by repeat (first | exact Take1.head | apply Take1.tail)) (by rfl)) rfl ?_
              refine WL.y (Yl.move rfl) rfl ?_
              refine WL.y (Yl.assign rfl) rfl ?_
              refine WL.y (Yl.assign rfl) rfl ?_
              refine WL.nil ?_
              refine WC.ret ?_
              repeat (first | (with_reducible refine peelT ?_) | (with_reducible refine peelB ?_) | (with_reducible refine peelTX ?_) | (with_reducible refine peelBX ?_) | (with_reducible refine peelBN ?_) | (with_reducible refine peelBO rfl ?_))
              first
              | (have e : agU p x (j : Int) now = true := by unfold agU; simp_all <;> (intros; omega)
                 rw [e]
                 exact ret2 (.inr rfl) Try.results25 rfl rfl fun w' h => ⟨(), trivial, rfl, h.sub (by repeat (first | exact TakeL.nil | (apply TakeL.cons; · repeat (first | exact Take1.head | apply Take1.tail))))⟩)
              | (have e : agU p x (j : Int) now = false := by unfold agU; simp_all <;> (intros; omega)
                 rw [e]
                 exact ret2 (.inr rfl) Try.results25 rfl rfl fun w' h => ⟨(), trivial, rfl, h.sub (by repeat (first | exact TakeL.nil | (apply TakeL.cons; · repeat (first | exact Take1.head | apply Take1.tail))))⟩)
          · refine WH.off rfl rfl rfl rfl ?_
            refine WH.off rfl rfl rfl rfl ?_
            refine WH.off rfl rfl rfl rfl ?_
            refine WH.off rfl rfl rfl rfl ?_
            refine WH.off rfl rfl rfl rfl ?_
            refine WH.off rfl rfl rfl rfl ?_
            refine WH.off rfl rfl rfl rfl ?_
            refine WH.off rfl rfl rfl rfl ?_
            refine WH.off rfl rfl rfl rfl ?_
            refine WH.y (Yl.pickF rfl rfl) rfl ?_
            refine WH.nil ?_
            refine WC.condF rfl (by first | rfl | (simp; done) | (simp; omega)) ?_
            refine WC.skip ?_
            refine WC.seq ?_
            refine WC.region ?_
            refine WL.y (Yl.field fo24_3 rfl) rfl ?_
            refine WL.y (Yl.load on5 rfl (by repeat (first | exact Take1.head | apply Take1.tail)) (by rfl)) rfl ?_
            refine WL.y (Yl.move rfl) rfl ?_
            refine WL.y (Yl.assign rfl) rfl ?_
            refine WL.y (Yl.assign rfl) rfl ?_
            refine WL.nil ?_
            refine WC.ret ?_
            repeat (first | (with_reducible refine peelT ?_) | (with_reducible refine peelB ?_) | (with_reducible refine peelTX ?_) | (with_reducible refine peelBX ?_) | (with_reducible refine peelBN ?_) | (with_reducible refine peelBO rfl ?_))
            first
            | (have e : agU p x (j : Int) now = true := by unfold agU; simp_all <;> (intros; omega)
               rw [e]
               exact ret2 (.inr rfl) Try.results25 rfl rfl fun w' h => ⟨(), trivial, rfl, h.sub (by repeat (first | exact TakeL.nil | (apply TakeL.cons; · repeat (first | exact Take1.head | apply Take1.tail))))⟩)
            | (have e : agU p x (j : Int) now = false := by unfold agU; simp_all <;> (intros; omega)
               rw [e]
               exact ret2 (.inr rfl) Try.results25 rfl rfl fun w' h => ⟨(), trivial, rfl, h.sub (by repeat (first | exact TakeL.nil | (apply TakeL.cons; · repeat (first | exact Take1.head | apply Take1.tail))))⟩)
        · refine WH.off rfl rfl rfl rfl ?_
          refine WH.off rfl rfl rfl rfl ?_
          refine WH.off rfl rfl rfl rfl ?_
          refine WH.off rfl rfl rfl rfl ?_
          refine WH.off rfl rfl rfl rfl ?_
          refine WH.off rfl rfl rfl rfl ?_
          refine WH.off rfl rfl rfl rfl ?_
          refine WH.off rfl rfl rfl rfl ?_
          refine WH.y (Yl.pickF rfl rfl) rfl ?_
          refine WH.y (Yl.move rfl) rfl ?_
          refine WH.off rfl rfl rfl rfl ?_
          refine WH.off rfl rfl rfl rfl ?_
          refine WH.off rfl rfl rfl rfl ?_
          refine WH.off rfl rfl rfl rfl ?_
          refine WH.off rfl rfl rfl rfl ?_
          refine WH.off rfl rfl rfl rfl ?_
          refine WH.off rfl rfl rfl rfl ?_
          refine WH.off rfl rfl rfl rfl ?_
          refine WH.off rfl rfl rfl rfl ?_
          refine WH.y (Yl.pickF rfl rfl) rfl ?_
          refine WH.nil ?_
          refine WC.condF rfl (by first | rfl | (simp; done) | (simp; omega)) ?_
          refine WC.skip ?_
          refine WC.seq ?_
          refine WC.region ?_
          refine WL.y (Yl.field fo24_3 rfl) rfl ?_
          refine WL.y (Yl.load on5 rfl (by repeat (first | exact Take1.head | apply Take1.tail)) (by rfl)) rfl ?_
          refine WL.y (Yl.move rfl) rfl ?_
          refine WL.y (Yl.assign rfl) rfl ?_
          refine WL.y (Yl.assign rfl) rfl ?_
          refine WL.nil ?_
          refine WC.ret ?_
          repeat (first | (with_reducible refine peelT ?_) | (with_reducible refine peelB ?_) | (with_reducible refine peelTX ?_) | (with_reducible refine peelBX ?_) | (with_reducible refine peelBN ?_) | (with_reducible refine peelBO rfl ?_))
          first
          | (have e : agU p x (j : Int) now = true := by unfold agU; simp_all <;> (intros; omega)
             rw [e]
             exact ret2 (.inr rfl) Try.results25 rfl rfl fun w' h => ⟨(), trivial, rfl, h.sub (by repeat (first | exact TakeL.nil | (apply TakeL.cons; · repeat (first | exact Take1.head | apply Take1.tail))))⟩)
          | (have e : agU p x (j : Int) now = false := by unfold agU; simp_all <;> (intros; omega)
             rw [e]
             exact ret2 (.inr rfl) Try.results25 rfl rfl fun w' h => ⟨(), trivial, rfl, h.sub (by repeat (first | exact TakeL.nil | (apply TakeL.cons; · repeat (first | exact Take1.head | apply Take1.tail))))⟩)
      · refine WH.off rfl rfl rfl rfl ?_
        refine WH.off rfl rfl rfl rfl ?_
        refine WH.off rfl rfl rfl rfl ?_
        refine WH.off rfl rfl rfl rfl ?_
        refine WH.off rfl rfl rfl rfl ?_
        refine WH.off rfl rfl rfl rfl ?_
        refine WH.y (Yl.pickF rfl rfl) rfl ?_
        refine WH.y (Yl.move rfl) rfl ?_
        refine WH.off rfl rfl rfl rfl ?_
        refine WH.off rfl rfl rfl rfl ?_
        refine WH.off rfl rfl rfl rfl ?_
        refine WH.off rfl rfl rfl rfl ?_
        refine WH.off rfl rfl rfl rfl ?_
        refine WH.off rfl rfl rfl rfl ?_
        refine WH.off rfl rfl rfl rfl ?_
        refine WH.off rfl rfl rfl rfl ?_
        refine WH.y (Yl.pickF rfl rfl) rfl ?_
        refine WH.y (Yl.move rfl) rfl ?_
        refine WH.off rfl rfl rfl rfl ?_
        refine WH.off rfl rfl rfl rfl ?_
        refine WH.off rfl rfl rfl rfl ?_
        refine WH.off rfl rfl rfl rfl ?_
        refine WH.off rfl rfl rfl rfl ?_
        refine WH.off rfl rfl rfl rfl ?_
        refine WH.off rfl rfl rfl rfl ?_
        refine WH.off rfl rfl rfl rfl ?_
        refine WH.off rfl rfl rfl rfl ?_
        refine WH.y (Yl.pickF rfl rfl) rfl ?_
        refine WH.nil ?_
        refine WC.condF rfl (by first | rfl | (simp; done) | (simp; omega)) ?_
        refine WC.skip ?_
        refine WC.seq ?_
        refine WC.region ?_
        refine WL.y (Yl.field fo24_3 rfl) rfl ?_
        refine WL.y (Yl.load on5 rfl (by repeat (first | exact Take1.head | apply Take1.tail)) (by rfl)) rfl ?_
        refine WL.y (Yl.move rfl) rfl ?_
        refine WL.y (Yl.assign rfl) rfl ?_
        refine WL.y (Yl.assign rfl) rfl ?_
        refine WL.nil ?_
        refine WC.ret ?_
        repeat (first | (with_reducible refine peelT ?_) | (with_reducible refine peelB ?_) | (with_reducible refine peelTX ?_) | (with_reducible refine peelBX ?_) | (with_reducible refine peelBN ?_) | (with_reducible refine peelBO rfl ?_))
        first
        | (have e : agU p x (j : Int) now = true := by unfold agU; simp_all <;> (intros; omega)
           rw [e]
           exact ret2 (.inr rfl) Try.results25 rfl rfl fun w' h => ⟨(), trivial, rfl, h.sub (by repeat (first | exact TakeL.nil | (apply TakeL.cons; · repeat (first | exact Take1.head | apply Take1.tail))))⟩)
        | (have e : agU p x (j : Int) now = false := by unfold agU; simp_all <;> (intros; omega)
           rw [e]
           exact ret2 (.inr rfl) Try.results25 rfl rfl fun w' h => ⟨(), trivial, rfl, h.sub (by repeat (first | exact TakeL.nil | (apply TakeL.cons; · repeat (first | exact Take1.head | apply Take1.tail))))⟩)
    · refine WH.off rfl rfl rfl rfl ?_
      refine WH.off rfl rfl rfl rfl ?_
      refine WH.y (Yl.pickF rfl rfl) rfl ?_
      refine WH.y (Yl.move rfl) rfl ?_
      refine WH.off rfl rfl rfl rfl ?_
      refine WH.off rfl rfl rfl rfl ?_
      refine WH.off rfl rfl rfl rfl ?_
      refine WH.off rfl rfl rfl rfl ?_
      refine WH.off rfl rfl rfl rfl ?_
      refine WH.off rfl rfl rfl rfl ?_
      refine WH.y (Yl.pickF rfl rfl) rfl ?_
      refine WH.y (Yl.move rfl) rfl ?_
      refine WH.off rfl rfl rfl rfl ?_
      refine WH.off rfl rfl rfl rfl ?_
      refine WH.off rfl rfl rfl rfl ?_
      refine WH.off rfl rfl rfl rfl ?_
      refine WH.off rfl rfl rfl rfl ?_
      refine WH.off rfl rfl rfl rfl ?_
      refine WH.off rfl rfl rfl rfl ?_
      refine WH.off rfl rfl rfl rfl ?_
      refine WH.y (Yl.pickF rfl rfl) rfl ?_
      refine WH.y (Yl.move rfl) rfl ?_
      refine WH.off rfl rfl rfl rfl ?_
      refine WH.off rfl rfl rfl rfl ?_
      refine WH.off rfl rfl rfl rfl ?_
      refine WH.off rfl rfl rfl rfl ?_
      refine WH.off rfl rfl rfl rfl ?_
      refine WH.off rfl rfl rfl rfl ?_
      refine WH.off rfl rfl rfl rfl ?_
      refine WH.off rfl rfl rfl rfl ?_
      refine WH.off rfl rfl rfl rfl ?_
      refine WH.y (Yl.pickF rfl rfl) rfl ?_
      refine WH.nil ?_
      refine WC.condF rfl (by first | rfl | (simp; done) | (simp; omega)) ?_
      refine WC.skip ?_
      refine WC.seq ?_
      refine WC.region ?_
      refine WL.y (Yl.field fo24_3 rfl) rfl ?_
      refine WL.y (Yl.load on5 rfl (by repeat (first | exact Take1.head | apply Take1.tail)) (by rfl)) rfl ?_
      refine WL.y (Yl.move rfl) rfl ?_
      refine WL.y (Yl.assign rfl) rfl ?_
      refine WL.y (Yl.assign rfl) rfl ?_
      refine WL.nil ?_
      refine WC.ret ?_
      repeat (first | (with_reducible refine peelT ?_) | (with_reducible refine peelB ?_) | (with_reducible refine peelTX ?_) | (with_reducible refine peelBX ?_) | (with_reducible refine peelBN ?_) | (with_reducible refine peelBO rfl ?_))
      first
      | (have e : agU p x (j : Int) now = true := by unfold agU; simp_all <;> (intros; omega)
         rw [e]
         exact ret2 (.inr rfl) Try.results25 rfl rfl fun w' h => ⟨(), trivial, rfl, h.sub (by repeat (first | exact TakeL.nil | (apply TakeL.cons; · repeat (first | exact Take1.head | apply Take1.tail))))⟩)
      | (have e : agU p x (j : Int) now = false := by unfold agU; simp_all <;> (intros; omega)
         rw [e]
         exact ret2 (.inr rfl) Try.results25 rfl rfl fun w' h => ⟨(), trivial, rfl, h.sub (by repeat (first | exact TakeL.nil | (apply TakeL.cons; · repeat (first | exact Take1.head | apply Take1.tail))))⟩)
end Go.Proofs.Ytnlibngncicobaa
