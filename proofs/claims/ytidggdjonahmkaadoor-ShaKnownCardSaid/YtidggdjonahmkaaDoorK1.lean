/- A block's work on natural numbers, quick for the kernel. -/
import Derived.Test.YtidggdjonahmkaaDoorT11
namespace Stk
open Go
set_option maxRecDepth 100000
set_option linter.unusedSimpArgs false
set_option linter.unusedVariables false
set_option maxHeartbeats 8000000
theorem bits_nat (op : BinOp) {a b : Nat} (ha : a < 4294967296) (hb : b < 4294967296) : bitsV .xor .u32 (a : Int) (b : Int) = ((a ^^^ b : Nat) : Int) ∧ bitsV .and .u32 (a : Int) (b : Int) = ((a &&& b : Nat) : Int) := by
  have t1 : (BitVec.ofInt (IntKind.bits .u32) (a : Int)).toNat = a := by
    rw [BitVec.ofInt_natCast, BitVec.toNat_ofNat, Nat.mod_eq_of_lt (by exact ha)]
  have t2 : (BitVec.ofInt (IntKind.bits .u32) (b : Int)).toNat = b := by
    rw [BitVec.ofInt_natCast, BitVec.toNat_ofNat, Nat.mod_eq_of_lt (by exact hb)]
  have l1 : a ^^^ b < 4294967296 := Nat.xor_lt_two_pow (n := 32) ha hb
  have l2 : a &&& b < 4294967296 := Nat.and_lt_two_pow (n := 32) a hb
  constructor
  · unfold bitsV
    dsimp only
    rw [BitVec.toNat_xor, t1, t2, IntKind.wrap_u32]
    omega
  · unfold bitsV
    dsimp only
    rw [BitVec.toNat_and, t1, t2, IntKind.wrap_u32]
    omega
/-- A word twice, shifted: its turn. -/
theorem twice_shift {x n : Nat} (hx : x < 4294967296) (hn : n ≤ 32) : (x * 4294967297) >>> n % 4294967296 = rotN n x := by
  unfold rotN
  rw [Nat.shiftRight_eq_div_pow]
  have hp : (2 : Nat) ^ n * 2 ^ (32 - n) = 4294967296 := by rw [← Nat.pow_add, show n + (32 - n) = 32 by omega]
  have hP : 0 < (2 : Nat) ^ n := Nat.pos_of_ne_zero (by simp)
  have hM : 0 < (2 : Nat) ^ (32 - n) := Nat.pos_of_ne_zero (by simp)
  generalize (2 : Nat) ^ n = P at hp hP ⊢
  generalize (2 : Nat) ^ (32 - n) = M at hp hM ⊢
  have e1 : x * 4294967297 = x + P * (M * x) := by rw [← Nat.mul_assoc, hp]; omega
  rw [e1, Nat.add_mul_div_left _ _ hP]
  have hd : x / P < M := by
    apply Nat.div_lt_of_lt_mul
    rw [hp]; exact hx
  have e2 : M * x = M * (x % P) + 4294967296 * (x / P) := by
    conv => lhs; rw [← Nat.mod_add_div x P]
    rw [Nat.mul_add, ← Nat.mul_assoc, Nat.mul_comm M P, hp]
  rw [e2]
  have hm : M * (x % P) + x / P < 4294967296 := by
    have h1 : x % P + 1 ≤ P := Nat.mod_lt x hP
    have h2 : M * (x % P + 1) ≤ M * P := Nat.mul_le_mul_left M h1
    rw [Nat.mul_comm M P, hp, Nat.mul_add, Nat.mul_one] at h2
    omega
  rw [Nat.mul_comm (x % P) M]
  generalize M * (x % P) = c at hm ⊢
  generalize x / P = d at hm ⊢
  omega
theorem rot_two {x n : Nat} (hx : x < 4294967296) (hn : n ≤ 32) : rot n (x : Int) = (((x * 4294967297) >>> n % 4294967296 : Nat) : Int) := by
  rw [rot_nat x (by omega) n hn, twice_shift hx hn]
/-- Three turns of a word, laid over each other. -/
theorem turns {x i j k : Nat} (hx : x < 4294967296) (hi : i ≤ 32) (hj : j ≤ 32) (hk : k ≤ 32) : xr (xr (rot i (x : Int)) (rot j (x : Int))) (rot k (x : Int)) =
    (((((x * 4294967297) >>> i ^^^ (x * 4294967297) >>> j) ^^^ (x * 4294967297) >>> k) % 4294967296 : Nat) : Int) := by
  rw [rot_two hx hi, rot_two hx hj, rot_two hx hk]
  have m : ∀ y : Nat, y % 4294967296 < 4294967296 := fun y => Nat.mod_lt _ (by decide)
  show bitsV .xor .u32 (bitsV .xor .u32 _ _) _ = _
  rw [(bits_nat .xor (m _) (m _)).1, (bits_nat .xor (Nat.xor_lt_two_pow (n := 32) (m _) (m _)) (m _)).1]
  congr 1
  have hx2 : ∀ a b : Nat, a % 4294967296 ^^^ b % 4294967296 = (a ^^^ b) % 4294967296 := fun a b => (Nat.xor_mod_two_pow (n := 32)).symm
  rw [hx2, hx2]
def toH (a b c d e f g h : Nat) : H8 := ⟨a, b, c, d, e, f, g, h⟩
/-- One turn. -/
def t1N (kw e f g h : Nat) : Nat := Nat.mod (Nat.add (Nat.add (Nat.add h kw) (Nat.mod (Nat.xor (Nat.xor (Nat.shiftRight (Nat.mul e 4294967297) 6) (Nat.shiftRight (Nat.mul e 4294967297) 11)) (Nat.shiftRight (Nat.mul e 4294967297) 25)) 4294967296)) (Nat.xor (Nat.land e f) (Nat.land (Nat.xor 4294967295 e) g))) 4294967296
def t2N (t a b c : Nat) : Nat := Nat.mod (Nat.add t (Nat.add (Nat.mod (Nat.xor (Nat.xor (Nat.shiftRight (Nat.mul a 4294967297) 2) (Nat.shiftRight (Nat.mul a 4294967297) 13)) (Nat.shiftRight (Nat.mul a 4294967297) 22)) 4294967296) (Nat.xor (Nat.xor (Nat.land a b) (Nat.land a c)) (Nat.land b c)))) 4294967296
theorem rd_nat {a b c d e f g h kw : Nat} {k w : Int} (ha : a < 4294967296) (hb : b < 4294967296) (hc : c < 4294967296) (he : e < 4294967296) (hf : f < 4294967296) (hg : g < 4294967296) (hkw : (k + w) % 4294967296 = kw) :
    rd (toH a b c d e f g h) k w = toH (t2N (t1N kw e f g h) a b c) a b c (Nat.mod (Nat.add d (t1N kw e f g h)) 4294967296) e f g := by
  have hnt : nt (e : Int) = ((4294967295 ^^^ e : Nat) : Int) := by
    have := (bits_nat .xor (show 4294967295 < 4294967296 by decide) he).1
    exact this
  have l1 : 4294967295 ^^^ e < 4294967296 := Nat.xor_lt_two_pow (n := 32) (by decide) he
  have l2 : e &&& f < 4294967296 := Nat.and_lt_two_pow (n := 32) e hf
  have l3 : (4294967295 ^^^ e) &&& g < 4294967296 := Nat.and_lt_two_pow (n := 32) _ hg
  have l4 : a &&& b < 4294967296 := Nat.and_lt_two_pow (n := 32) a hb
  have l5 : a &&& c < 4294967296 := Nat.and_lt_two_pow (n := 32) a hc
  have l6 : b &&& c < 4294967296 := Nat.and_lt_two_pow (n := 32) b hc
  have hch : ch (e : Int) f g = (((e &&& f) ^^^ ((4294967295 ^^^ e) &&& g) : Nat) : Int) := by
    unfold ch
    rw [hnt, show an (e : Int) f = _ from (bits_nat .and he hf).2, show an ((4294967295 ^^^ e : Nat) : Int) g = _ from (bits_nat .and l1 hg).2]
    exact (bits_nat .xor l2 l3).1
  have hmj : mj (a : Int) b c = ((((a &&& b) ^^^ (a &&& c)) ^^^ (b &&& c) : Nat) : Int) := by
    unfold mj
    rw [show an (a : Int) b = _ from (bits_nat .and ha hb).2, show an (a : Int) c = _ from (bits_nat .and ha hc).2, show an (b : Int) c = _ from (bits_nat .and hb hc).2]
    rw [show xr ((a &&& b : Nat) : Int) ((a &&& c : Nat) : Int) = _ from (bits_nat .xor l4 l5).1]
    exact (bits_nat .xor (Nat.xor_lt_two_pow (n := 32) l4 l5) l6).1
  have hS1 : S1 (e : Int) = _ := turns he (i := 6) (j := 11) (k := 25) (by omega) (by omega) (by omega)
  have hS0 : S0 (a : Int) = _ := turns ha (i := 2) (j := 13) (k := 22) (by omega) (by omega) (by omega)
  have hpx : px (toH a b c d e f g h) k w = ((t1N kw e f g h : Nat) : Int) := by
    unfold px
    show ad (ad (ad (ad (h : Int) (S1 (e : Int))) (ch (e : Int) f g)) k) w = _
    rw [hS1, hch]
    have ht : t1N kw e f g h = (h + kw + ((e * 4294967297) >>> 6 ^^^ (e * 4294967297) >>> 11 ^^^ (e * 4294967297) >>> 25) % 4294967296 + ((e &&& f) ^^^ ((4294967295 ^^^ e) &&& g))) % 4294967296 := rfl
    rw [ht]
    generalize ((e * 4294967297) >>> 6 ^^^ (e * 4294967297) >>> 11 ^^^ (e * 4294967297) >>> 25) = s
    generalize (e &&& f) ^^^ ((4294967295 ^^^ e) &&& g) = q
    unfold ad
    rw [IntKind.wrap_u32, IntKind.wrap_u32, IntKind.wrap_u32, IntKind.wrap_u32]
    omega
  have hpy : ∀ t : Nat, ad ((t : Nat) : Int) (py (toH a b c d e f g h)) = ((t2N t a b c : Nat) : Int) := by
    intro t
    unfold py
    show ad (t : Int) (ad (S0 (a : Int)) (mj (a : Int) b c)) = _
    rw [hS0, hmj]
    have ht : t2N t a b c = (t + (((a * 4294967297) >>> 2 ^^^ (a * 4294967297) >>> 13 ^^^ (a * 4294967297) >>> 22) % 4294967296 + (((a &&& b) ^^^ (a &&& c)) ^^^ (b &&& c)))) % 4294967296 := rfl
    rw [ht]
    generalize ((a * 4294967297) >>> 2 ^^^ (a * 4294967297) >>> 13 ^^^ (a * 4294967297) >>> 22) = s
    generalize (((a &&& b) ^^^ (a &&& c)) ^^^ (b &&& c)) = q
    unfold ad
    rw [IntKind.wrap_u32, IntKind.wrap_u32]
    omega
  have hd : ad (d : Int) ((t1N kw e f g h : Nat) : Int) = ((Nat.mod (Nat.add d (t1N kw e f g h)) 4294967296 : Nat) : Int) := by
    show _ = (((d + t1N kw e f g h) % 4294967296 : Nat) : Int)
    unfold ad
    rw [IntKind.wrap_u32]
    omega
  unfold rd
  rw [hpx, hpy]
  show H8.mk _ _ _ _ (ad (d : Int) _) _ _ _ = _
  rw [hd]
  rfl
theorem t1N_lt (kw e f g h : Nat) : t1N kw e f g h < 4294967296 := Nat.mod_lt _ (by decide)
theorem t2N_lt (t a b c : Nat) : t2N t a b c < 4294967296 := Nat.mod_lt _ (by decide)
/-- A natural number is forced, and handed on. -/
@[reducible] def fc {α : Type} (n : Nat) (k : Nat → α) : α := Nat.rec (motive := fun _ => α) (k 0) (fun m _ => k (Nat.succ m)) n
theorem fc_eq {α : Type} (n : Nat) (k : Nat → α) : fc n k = k n := by cases n <;> rfl
/-- Turns, one behind the other. -/
noncomputable def blkR {α : Type} (l : List Nat) : Nat → Nat → Nat → Nat → Nat → Nat → Nat → Nat → (Nat → Nat → Nat → Nat → Nat → Nat → Nat → Nat → α) → α :=
  List.rec (motive := fun _ => Nat → Nat → Nat → Nat → Nat → Nat → Nat → Nat → (Nat → Nat → Nat → Nat → Nat → Nat → Nat → Nat → α) → α)
    (fun a b c d e f g h k => k a b c d e f g h)
    (fun x _ ih a b c d e f g h k => fc (t1N x e f g h) fun t => fc (t2N t a b c) fun a' => fc (Nat.mod (Nat.add d t) 4294967296) fun e' => ih a' a b c e' e f g k) l
noncomputable def itR {α : Type} (l : List Nat) (n : Nat) : Nat → Nat → Nat → Nat → Nat → Nat → Nat → Nat → (Nat → Nat → Nat → Nat → Nat → Nat → Nat → Nat → α) → α :=
  Nat.rec (motive := fun _ => Nat → Nat → Nat → Nat → Nat → Nat → Nat → Nat → (Nat → Nat → Nat → Nat → Nat → Nat → Nat → Nat → α) → α)
    (fun a b c d e f g h k => k a b c d e f g h)
    (fun _ ih a b c d e f g h k => blkR l a b c d e f g h fun a' b' c' d' e' f' g' h' =>
      fc (Nat.mod (Nat.add a a') 4294967296) fun a => fc (Nat.mod (Nat.add b b') 4294967296) fun b => fc (Nat.mod (Nat.add c c') 4294967296) fun c => fc (Nat.mod (Nat.add d d') 4294967296) fun d =>
      fc (Nat.mod (Nat.add e e') 4294967296) fun e => fc (Nat.mod (Nat.add f f') 4294967296) fun f => fc (Nat.mod (Nat.add g g') 4294967296) fun g => fc (Nat.mod (Nat.add h h') 4294967296) fun h =>
      ih a b c d e f g h k) n
/-- Turns over given words. -/
def rdl : List (Int × Int) → H8 → H8
  | [], v => v
  | (k, w) :: r, v => rdl r (rd v k w)
def kws (l : List (Int × Int)) (m : List Nat) : Prop := match l, m with
  | [], [] => True
  | (k, w) :: l, x :: m => (k + w) % 4294967296 = (x : Int) ∧ kws l m
  | _, _ => False
structure N8 (a b c d e f g h : Nat) : Prop where
  a : a < 4294967296
  b : b < 4294967296
  c : c < 4294967296
  d : d < 4294967296
  e : e < 4294967296
  f : f < 4294967296
  g : g < 4294967296
  h : h < 4294967296
theorem blk_eq {α : Type} : ∀ {l : List (Int × Int)} {m : List Nat}, kws l m → ∀ {a b c d e f g h : Nat}, N8 a b c d e f g h →
    ∀ (k : Nat → Nat → Nat → Nat → Nat → Nat → Nat → Nat → α), ∃ a' b' c' d' e' f' g' h', N8 a' b' c' d' e' f' g' h' ∧ rdl l (toH a b c d e f g h) = toH a' b' c' d' e' f' g' h' ∧ blkR m a b c d e f g h k = k a' b' c' d' e' f' g' h'
  | [], [], _, a, b, c, d, e, f, g, h, n, k => ⟨a, b, c, d, e, f, g, h, n, rfl, rfl⟩
  | (k0, w0) :: l, x :: m, hk, a, b, c, d, e, f, g, h, n, k => by
    obtain ⟨h1, h2⟩ := hk
    have hr := rd_nat (d := d) (h := h) n.a n.b n.c n.e n.f n.g h1
    obtain ⟨a', b', c', d', e', f', g', h', q1, q2, q3⟩ := blk_eq (α := α) h2 (a := t2N (t1N x e f g h) a b c) (b := a) (c := b) (d := c) (e := Nat.mod (Nat.add d (t1N x e f g h)) 4294967296) (f := e) (g := f) (h := g)
      ⟨t2N_lt _ _ _ _, n.a, n.b, n.c, Nat.mod_lt _ (by decide), n.e, n.f, n.g⟩ k
    refine ⟨a', b', c', d', e', f', g', h', q1, ?_, ?_⟩
    · show rdl l (rd _ k0 w0) = _
      rw [hr, q2]
    · have hb : blkR (x :: m) a b c d e f g h k = fc (t1N x e f g h) fun t => fc (t2N t a b c) fun a' => fc (Nat.mod (Nat.add d t) 4294967296) fun e' => blkR m a' a b c e' e f g k := rfl
      rw [hb, fc_eq, fc_eq, fc_eq]
      exact q3
  | [], _ :: _, hk, _, _, _, _, _, _, _, _, _, _ => hk.elim
  | _ :: _, [], hk, _, _, _, _, _, _, _, _, _, _ => hk.elim
/-- Blocks with the same words, one behind the other. -/
def itH (l : List (Int × Int)) : Nat → H8 → H8
  | 0, v => v
  | n + 1, v => itH l n (ad8 v (rdl l v))
theorem it_eq {α : Type} {l : List (Int × Int)} {m : List Nat} (hk : kws l m) : ∀ (n : Nat) {a b c d e f g h : Nat}, N8 a b c d e f g h →
    ∀ (k : Nat → Nat → Nat → Nat → Nat → Nat → Nat → Nat → α), ∃ a' b' c' d' e' f' g' h', N8 a' b' c' d' e' f' g' h' ∧ itH l n (toH a b c d e f g h) = toH a' b' c' d' e' f' g' h' ∧ itR m n a b c d e f g h k = k a' b' c' d' e' f' g' h'
  | 0, a, b, c, d, e, f, g, h, n8, k => ⟨a, b, c, d, e, f, g, h, n8, rfl, rfl⟩
  | n + 1, a, b, c, d, e, f, g, h, n8, k => by
    have hm : ∀ x y : Nat, ad ((x : Nat) : Int) ((y : Nat) : Int) = ((Nat.mod (Nat.add x y) 4294967296 : Nat) : Int) := fun x y => by
      show _ = (((x + y) % 4294967296 : Nat) : Int)
      unfold ad
      rw [IntKind.wrap_u32]
      omega
    have hl : ∀ x y : Nat, Nat.mod (Nat.add x y) 4294967296 < 4294967296 := fun x y => Nat.mod_lt _ (by decide)
    obtain ⟨a', b', c', d', e', f', g', h', q1, q2, q3⟩ := blk_eq (α := α) hk n8 (fun a' b' c' d' e' f' g' h' =>
      fc (Nat.mod (Nat.add a a') 4294967296) fun a => fc (Nat.mod (Nat.add b b') 4294967296) fun b => fc (Nat.mod (Nat.add c c') 4294967296) fun c => fc (Nat.mod (Nat.add d d') 4294967296) fun d =>
      fc (Nat.mod (Nat.add e e') 4294967296) fun e => fc (Nat.mod (Nat.add f f') 4294967296) fun f => fc (Nat.mod (Nat.add g g') 4294967296) fun g => fc (Nat.mod (Nat.add h h') 4294967296) fun h =>
      itR m n a b c d e f g h k)
    obtain ⟨a2, b2, c2, d2, e2, f2, g2, h2, r1, r2, r3⟩ := it_eq (α := α) hk n (a := Nat.mod (Nat.add a a') 4294967296) (b := Nat.mod (Nat.add b b') 4294967296) (c := Nat.mod (Nat.add c c') 4294967296) (d := Nat.mod (Nat.add d d') 4294967296)
      (e := Nat.mod (Nat.add e e') 4294967296) (f := Nat.mod (Nat.add f f') 4294967296) (g := Nat.mod (Nat.add g g') 4294967296) (h := Nat.mod (Nat.add h h') 4294967296) ⟨hl _ _, hl _ _, hl _ _, hl _ _, hl _ _, hl _ _, hl _ _, hl _ _⟩ k
    refine ⟨a2, b2, c2, d2, e2, f2, g2, h2, r1, ?_, ?_⟩
    · show itH l n (ad8 _ (rdl l _)) = _
      rw [q2, ← r2]
      congr 1
    · show blkR m a b c d e f g h _ = _
      refine q3.trans ?_
      rw [fc_eq, fc_eq, fc_eq, fc_eq, fc_eq, fc_eq, fc_eq, fc_eq]
      exact r3
end Stk
