/- The reference's sum, as numbers: plain definitions. -/
import Derived.Test.YtfdnnlcfolgegaaShaN
import Derived.Test.YtfdnnlcfolgegaaShaK
namespace Go.Proofs.Ytfdnnlcfolgegaa
open Go Go.RowKit

section
variable {c : Cx} {H F : List Res}
theorem holeI2 {v : Value} {e n t : Nat} {cs cs0 : List Value} {r : Res} {F' : List Res} (tk : Take1 H (ownR v e 1 n cs) F) (h : ∃ u, cs = cs0.set t u) (t2 : Take1 F r F') : Impl c H [holeR v e n cs0 t, r] := fun w hw => by
  obtain ⟨u, rfl⟩ := h
  have h2 : OK c.w0 c.S (holeR v e n cs0 t :: F) w := hw.recast tk (fun h => ⟨u, h⟩) (fun k hk => hk)
  exact OK.left (A := [_, _]) (h2.perm (t2.perm.cons _))
end

/-- First words, so many of them brought down. -/
def rdnF (d : Int) (L : List Int) : Nat → List Int
  | 0 => L
  | i + 1 => (rdnF d L i).set i ((rdnF d L i).getD i 0 / d)
theorem rdnF_len (d : Int) (L : List Int) : ∀ i, (rdnF d L i).length = L.length
  | 0 => rfl
  | i + 1 => by simp [rdnF, rdnF_len d L i]
theorem W64.quo {x d : Int} (h : W64 x) (hd : 0 < d) : W64 (x / d) := ⟨Int.ediv_nonneg h.1 (Int.le_of_lt hd), by have := Int.ediv_le_self d h.1; have := h.2; omega⟩
theorem rdnF_w {d : Int} {L : List Int} (hd : 0 < d) (h : WS L) : ∀ i, WS (rdnF d L i)
  | 0 => h
  | i + 1 => WS.set (rdnF_w hd h i) (W64.quo ((rdnF_w hd h i).at i) hd)
/-- A word of a text, so many of its bytes. -/
def rxF (all : List Int) (off : Nat) : Nat → Int
  | 0 => 0
  | i + 1 => IntKind.u64.wrap (IntKind.u64.wrap (256 * rxF all off i) + IntKind.u64.wrap (all.getD (off + i) 0))
theorem rxF_w {all : List Int} {off : Nat} : ∀ i, W64 (rxF all off i)
  | 0 => ⟨by simp [rxF], by simp [rxF]⟩
  | _ + 1 => u64_wrap _
def rwF (z : Nat) (all : List Int) (at' t : Nat) : List Int := (List.range t).map fun t => rxF all (at' + t * z) z
theorem rwF_len {z : Nat} {all : List Int} {at' : Nat} (t : Nat) : (rwF z all at' t).length = t := by simp [rwF]
theorem rwF_succ {z : Nat} {all : List Int} {at' : Nat} (t : Nat) : rwF z all at' (t + 1) = rwF z all at' t ++ [rxF all (at' + t * z) z] := by simp [rwF, List.range_succ]
theorem rwF_w {z : Nat} {all : List Int} {at' : Nat} (t : Nat) : WS (rwF z all at' t) := fun x hx => by
  obtain ⟨t', _, rfl⟩ := List.mem_map.1 hx
  exact rxF_w z
def rmoreF (bt : Nat) (L : List Int) (j : Nat) : Int :=
  cutF (IntKind.u64.wrap (IntKind.u64.wrap (IntKind.u64.wrap (fourF 3 (L.getD (14 + j) 0) bt + L.getD (9 + j) 0) + fourF 2 (L.getD (1 + j) 0) bt) + L.getD j 0)) bt
def rexF (bt : Nat) (ws : List Int) : Nat → List Int
  | 0 => ws
  | j + 1 => rexF bt ws j ++ [rmoreF bt (rexF bt ws j) j]
theorem rexF_len (bt : Nat) (ws : List Int) : ∀ j, (rexF bt ws j).length = ws.length + j
  | 0 => rfl
  | j + 1 => by simp [rexF, rexF_len bt ws j]; omega
theorem rexF_w {bt : Nat} {ws : List Int} (h : WS ws) : ∀ j, WS (rexF bt ws j)
  | 0 => h
  | j + 1 => WS.app (rexF_w h j) (WS.one (cutF_w (u64_wrap _)))
def rrsF (bt : Nat) (d : Int) (ks ws x : List Int) : Nat → List Int
  | 0 => x
  | j + 1 => rrdF bt (rrsF bt d ks ws x j) (ks.getD j 0 / d) (ws.getD j 0)
theorem rrsF_len {bt : Nat} {d : Int} {ks ws x : List Int} (h : x.length = 8) : ∀ j, (rrsF bt d ks ws x j).length = 8
  | 0 => h
  | j + 1 => rrdF_len (rrsF_len h j)
theorem rrsF_w {bt : Nat} {d : Int} {ks ws x : List Int} (h : WS x) : ∀ j, WS (rrsF bt d ks ws x j)
  | 0 => h
  | j + 1 => rrdF_w (rrsF_w h j)
def radF (bt : Nat) (H x : List Int) : Nat → List Int
  | 0 => H
  | i + 1 => (radF bt H x i).set i (cutF (IntKind.u64.wrap ((radF bt H x i).getD i 0 + x.getD i 0)) bt)
theorem radF_len (bt : Nat) (H x : List Int) : ∀ i, (radF bt H x i).length = H.length
  | 0 => rfl
  | i + 1 => by simp [radF, radF_len bt H x i]
theorem radF_w {bt : Nat} {H x : List Int} (h : WS H) : ∀ i, WS (radF bt H x i)
  | 0 => h
  | i + 1 => WS.set (radF_w h i) (cutF_w (u64_wrap _))
def rblockF (bt z n : Nat) (d : Int) (H all : List Int) (at' : Nat) : List Int :=
  radF bt H (rrsF bt d const64 (rexF bt (rwF z all at' 16) (n - 16)) H n) 8
def rbkF (bt z n : Nat) (d : Int) (H all : List Int) : Nat → List Int
  | 0 => H
  | c + 1 => rblockF bt z n d (rbkF bt z n d H all c) all (c * (16 * z))
theorem rbkF_len {bt z n : Nat} {d : Int} {H all : List Int} : ∀ c, (rbkF bt z n d H all c).length = H.length
  | 0 => rfl
  | c + 1 => by unfold rbkF rblockF; rw [radF_len, rbkF_len c]
theorem rbkF_w {bt z n : Nat} {d : Int} {H all : List Int} (h : WS H) : ∀ c, WS (rbkF bt z n d H all c)
  | 0 => h
  | c + 1 => by unfold rbkF rblockF; exact radF_w (rbkF_w h c) 8
def rwdF (z : Nat) (x : Int) (j : Nat) : List Int := (List.range j).map fun t : Nat => IntKind.u8.wrap (x / 2 ^ (8 * (z - 1 - t)) % 256)
theorem rwdF_len (z : Nat) (x : Int) (j : Nat) : (rwdF z x j).length = j := by simp [rwdF]
theorem rwdF_succ (z : Nat) (x : Int) (j : Nat) : rwdF z x (j + 1) = rwdF z x j ++ [IntKind.u8.wrap (x / 2 ^ (8 * (z - 1 - j)) % 256)] := by simp [rwdF, List.range_succ]
def rdgF (z : Nat) (xs : List Int) : List Int := (xs.map fun x => rwdF z x z).flatten
theorem rdgF_len (z : Nat) : ∀ xs : List Int, (rdgF z xs).length = xs.length * z
  | [] => by simp [rdgF]
  | x :: xs => by
    have := rdgF_len z xs
    unfold rdgF at this ⊢
    rw [List.map_cons, List.flatten_cons, List.length_append, rwdF_len, this, List.length_cons, Nat.succ_mul, Nat.add_comm]
theorem rdgF_snoc (z : Nat) {xs : List Int} {i : Nat} (h : i < xs.length) : rdgF z (xs.take (i + 1)) = rdgF z (xs.take i) ++ rwdF z (xs.getD i 0) z := by
  rw [List.take_add_one]
  unfold rdgF
  rw [List.map_append, List.flatten_append]
  congr 1
  simp [h]
def rsumF (bt z n : Nat) (d : Int) (msg : List Int) : List Int := rdgF z (rbkF bt z n d (rdnF d first64 8) (rpadF z msg) ((rpadF z msg).length / (16 * z)))
theorem ws_first : WS first64 := by unfold WS W64; decide
set_option maxRecDepth 10000 in
theorem ws_const : WS const64 := by unfold WS W64; decide
end Go.Proofs.Ytfdnnlcfolgegaa
