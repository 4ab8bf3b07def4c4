/- A block is taken in, by the program. -/
import Derived.Test.YthkbahbbdacgeaaDoorT2
namespace Stk
open Go
set_option maxRecDepth 100000
set_option linter.unusedSimpArgs false
set_option linter.unusedVariables false
set_option maxHeartbeats 8000000
abbrev an (a b : Int) : Int := bitsV .and .u32 a b
def KL : List Tr := match GLOB1 with
  | .arr _ xs => xs
  | _ => []
def kk (t : Nat) : Int := gw KL t
def isW : Tr → Bool
  | .int .u32 n => decide (0 ≤ n ∧ n ≤ 4294967295)
  | _ => false
theorem KL_len : KL.length = 64 := by decide +kernel
theorem KL_w : AllW KL := by
  have h : KL.all isW = true := by decide +kernel
  intro y hy
  have := List.all_eq_true.1 h y hy
  unfold isW at this
  split at this
  · exact ⟨_, rfl, of_decide_eq_true this⟩
  · cases this
theorem KL_ok {i : Nat} (h : i < 64) : KL[i]? = some (w32 (kk i)) := (KL_w.get (by rw [KL_len]; exact h)).1
structure H8 where
  a : Int
  b : Int
  c : Int
  d : Int
  e : Int
  f : Int
  g : Int
  h : Int
abbrev H8.l (v : H8) : List Tr := [w32 v.a, w32 v.b, w32 v.c, w32 v.d, w32 v.e, w32 v.f, w32 v.g, w32 v.h]
structure H8.W (v : H8) : Prop where
  a : W32 v.a
  b : W32 v.b
  c : W32 v.c
  d : W32 v.d
  e : W32 v.e
  f : W32 v.f
  g : W32 v.g
  h : W32 v.h
def S1 (e : Int) : Int := xr (xr (rot 6 e) (rot 11 e)) (rot 25 e)
def S0 (a : Int) : Int := xr (xr (rot 2 a) (rot 13 a)) (rot 22 a)
def nt (x : Int) : Int := bitsV .xor .u32 (if IntKind.signed .u32 then -1 else IntKind.max .u32) x
def ch (e f g : Int) : Int := xr (an e f) (an (nt e) g)
def mj (a b c : Int) : Int := xr (xr (an a b) (an a c)) (an b c)
def px (v : H8) (k w : Int) : Int := ad (ad (ad (ad v.h (S1 v.e)) (ch v.e v.f v.g)) k) w
def py (v : H8) : Int := ad (S0 v.a) (mj v.a v.b v.c)
def rd (v : H8) (k w : Int) : H8 := ⟨ad (px v k w) (py v), v.a, v.b, v.c, ad v.d (px v k w), v.e, v.f, v.g⟩
def wd (bs ws : List Tr) (t : Nat) : Int := if t < 16 then be bs t else nw ws t
/-- The words and the state ahead of turn t. -/
def rs (bs : List Tr) (H : H8) : Nat → List Tr × H8
  | 0 => (List.replicate 64 (w32 0), H)
  | t + 1 => ((rs bs H t).1.set t (w32 (wd bs (rs bs H t).1 t)), rd (rs bs H t).2 (kk t) (wd bs (rs bs H t).1 t))
def ad8 (x y : H8) : H8 := ⟨ad x.a y.a, ad x.b y.b, ad x.c y.c, ad x.d y.d, ad x.e y.e, ad x.f y.f, ad x.g y.g, ad x.h y.h⟩
/-- A block's work. -/
def comp (bs : List Tr) (H : H8) : H8 := ad8 H (rs bs H 64).2
theorem ad_w (a b : Int) : W32 (ad a b) := by unfold W32 ad; rw [IntKind.wrap_u32]; constructor <;> omega
theorem rd_w {v : H8} (h : v.W) (k w : Int) : (rd v k w).W := ⟨ad_w _ _, h.a, h.b, h.c, ad_w _ _, h.e, h.f, h.g⟩
theorem ad8_w (x y : H8) : (ad8 x y).W := ⟨ad_w _ _, ad_w _ _, ad_w _ _, ad_w _ _, ad_w _ _, ad_w _ _, ad_w _ _, ad_w _ _⟩
theorem be_w {bs : List Tr} (h : AllB bs) (hl : bs.length = 64) {t : Nat} (ht : t < 16) : W32 (be bs t) := by
  have h0 := (h.get (show 4 * t < bs.length by omega)).2
  have h1 := (h.get (show 4 * t + 1 < bs.length by omega)).2
  have h2 := (h.get (show 4 * t + 2 < bs.length by omega)).2
  have h3 := (h.get (show 4 * t + 3 < bs.length by omega)).2
  unfold be W32
  constructor <;> omega
theorem wd_w {bs ws : List Tr} (h : AllB bs) (hl : bs.length = 64) (t : Nat) : W32 (wd bs ws t) := by
  unfold wd
  split
  · exact be_w h hl (by assumption)
  · exact ad_w _ _
structure RsOk (ws : List Tr) (v : H8) : Prop where
  l : ws.length = 64
  w : AllW ws
  v : v.W
theorem AllW.set {ws : List Tr} (h : AllW ws) (i : Nat) {v : Int} (hv : W32 v) : AllW (ws.set i (w32 v)) := fun y hy => by
  rcases List.mem_or_eq_of_mem_set hy with hy | rfl
  · exact h y hy
  · exact ⟨v, rfl, hv⟩
theorem rs_ok {bs : List Tr} (h : AllB bs) (hl : bs.length = 64) {H : H8} (hH : H.W) : ∀ t, RsOk (rs bs H t).1 (rs bs H t).2
  | 0 => ⟨by show (List.replicate _ _).length = 64; rw [List.length_replicate], fun y hy => ⟨0, List.eq_of_mem_replicate hy, by unfold W32; omega⟩, hH⟩
  | t + 1 => by
    have := rs_ok h hl hH t
    exact ⟨by show (List.set _ _ _).length = 64; rw [List.length_set]; exact this.l, this.w.set _ (wd_w h hl t), rd_w this.v _ _⟩
def mixL (x y : H8) (i : Nat) : List Tr := (ad8 x y).l.take i ++ x.l.drop i
structure ISt8 where
  i : Nat
  im : i ≤ 8
structure TSt where
  t : Nat
  im : t ≤ 64
abbrev fnW : AV := .fn F.sha_Digest_block_1 [] [pt 0, pt 2]
theorem k_block (H : H8) (wt : List Tr) (n : Int) (hH : H.W) (hb : AllB wt) (hl : wt.length = 64) :
    ACalls PP GG F.sha_Digest_block [pt 0] [.var (.t (dT H.l wt n))] fun r H' => r = .tup [] ∧ H' = [.var (.t (dT (comp wt H).l wt n))] := by
  refine K.sha_Digest_block.callsC rfl ?_
  (conv => arg 3; whnf); repeat ((first | (with_reducible apply sT); rfl | (with_reducible apply sF); rfl | (with_reducible apply sE); rfl); conv => arg 3; whnf)
  refine sat_loopOf mkX_ops (σ := TSt) (fun s => [(1, pt 0), (2, pt 2), (3, .fn F.sha_Digest_block_1 [] [pt 0, pt 2]), (4, pt 3), (16, ti s.t)])
    (fun s => [.var (pt 1), .var (.t (dT H.l wt n)), .var (.t (.arr 64 (rs wt H s.t).1)), .var (.t (.arr 8 (rs wt H s.t).2.l))]) (fun s => 64 - s.t)
    (fun ex fr' H' => ex = .exit 0 ∧ fr' = [(1, pt 0), (4, pt 3)] ∧ H' = [.var (pt 1), .var (.t (dT H.l wt n)), .var (.t (.arr 64 (rs wt H 64).1)), .var (.t (.arr 8 (rs wt H 64).2.l))]) ⟨0, Nat.zero_le _⟩ ?_ ?_
  · rintro ⟨t, im⟩
    dsimp only
    refine sat_br (fun hi => ?_) (fun hi => ?_)
    · have hi : t < 64 := by have := of_decide_eq_true hi; omega
      have ok := rs_ok hb hl hH t
      have hk := KL_ok hi
      have hnx : (rs wt H (t + 1)).1 = (rs wt H t).1.set t (w32 (wd wt (rs wt H t).1 t)) := rfl
      have hnv : (rs wt H (t + 1)).2 = rd (rs wt H t).2 (kk t) (wd wt (rs wt H t).1 t) := rfl
      have hword : ACalls PP GG F.sha_Digest_block_1 [ti t, pt 0, pt 2] [.var (pt 1), .var (.t (dT H.l wt n)), .var (.t (.arr 64 (rs wt H t).1))] fun r H' => r = tw (wd wt (rs wt H t).1 t) ∧ H' = [.var (pt 1), .var (.t (dT H.l wt n)), .var (.t (.arr 64 (rs wt H t).1))] := by
        unfold wd
        by_cases h16 : t < 16
        · rw [if_pos h16]; exact k_word1 _ _ _ _ t hb hl h16
        · rw [if_neg h16]; exact k_word2 _ _ _ _ t ok.w ok.l ⟨by omega, hi⟩
      have hwd := wd_w (ws := (rs wt H t).1) hb hl t
      generalize wd wt (rs wt H t).1 t = x at hword hnx hnv hwd
      generalize (rs wt H t).1 = ws at hword hnx ok ⊢
      generalize (rs wt H t).2 = v at hnv ok ⊢
      obtain ⟨wl, ww, vw⟩ := ok
      obtain ⟨v0, v1, v2, v3, v4, v5, v6, v7⟩ := v
      obtain ⟨ha, hbb, hc, hd, he, hf, hg, hh⟩ := vw
      dsimp only at ha hbb hc hd he hf hg hh
      (conv => arg 3; whnf); repeat ((first | (with_reducible apply sT); rfl | (with_reducible apply sF); rfl | (with_reducible apply sE); rfl); conv => arg 3; whnf)
      refine sat_call hword ?_
      rintro r H' ⟨rfl, rfl⟩
      have zt : (((t : Int).toNat : Nat) : Int).toNat = t := by omega
      have hk' : KL[(((t : Int).toNat : Nat) : Int).toNat]? = some (w32 (kk t)) := by rw [zt]; exact hk
      have hx' : (ws.set (t : Int).toNat (w32 x))[(((t : Int).toNat : Nat) : Int).toNat]? = some (w32 x) := by rw [zt, Int.toNat_natCast, List.getElem?_set_self (by omega)]
      obtain ⟨y, hy⟩ : ∃ y, ws[(((t : Int).toNat : Nat) : Int).toNat]? = some (w32 y) := ⟨_, by rw [zt]; exact (ww.get (show t < ws.length by omega)).1⟩
      (conv => arg 3; whnf); repeat ((first | (with_reducible apply sT); rfl | (with_reducible apply sF); rfl | (with_reducible apply sE); rfl); conv => arg 3; whnf)
      repeat (first | ((with_reducible refine sat_rng ?_ ?_); (exact wrap64 (by omega) (by omega)); (conv => arg 3; whnf); repeat ((first | (with_reducible apply sT); rfl | (with_reducible apply sF); rfl | (with_reducible apply sE); rfl); conv => arg 3; whnf)) | ((with_reducible refine sat_asrt ?_ ?_); (first | rfl | (exact decide_eq_true (by omega))); (conv => arg 3; whnf); repeat ((first | (with_reducible apply sT); rfl | (with_reducible apply sF); rfl | (with_reducible apply sE); rfl); conv => arg 3; whnf)) |
        ((with_reducible refine sat_rngw ?_); (conv => arg 3; whnf); repeat ((first | (with_reducible apply sT); rfl | (with_reducible apply sF); rfl | (with_reducible apply sE); rfl); conv => arg 3; whnf)) | ((refine sat_idx _ (by omega) hk' ?_); (conv => arg 3; whnf); repeat ((first | (with_reducible apply sT); rfl | (with_reducible apply sF); rfl | (with_reducible apply sE); rfl); conv => arg 3; whnf)) | ((refine sat_idx _ (by omega) hx' ?_); (conv => arg 3; whnf); repeat ((first | (with_reducible apply sT); rfl | (with_reducible apply sF); rfl | (with_reducible apply sE); rfl); conv => arg 3; whnf)) | ((refine sat_idx _ (by omega) hy ?_); (conv => arg 3; whnf); repeat ((first | (with_reducible apply sT); rfl | (with_reducible apply sF); rfl | (with_reducible apply sE); rfl); conv => arg 3; whnf)) | ((refine sat_idx _ (by decide) rfl ?_); (conv => arg 3; whnf); repeat ((first | (with_reducible apply sT); rfl | (with_reducible apply sF); rfl | (with_reducible apply sE); rfl); conv => arg 3; whnf)) | (refine sat_call (k_right v4 he 6 (by omega) (by omega)) ?_; rintro r H' ⟨rfl, rfl⟩; (conv => arg 3; whnf); repeat ((first | (with_reducible apply sT); rfl | (with_reducible apply sF); rfl | (with_reducible apply sE); rfl); conv => arg 3; whnf)) | (refine sat_call (k_right v4 he 11 (by omega) (by omega)) ?_; rintro r H' ⟨rfl, rfl⟩; (conv => arg 3; whnf); repeat ((first | (with_reducible apply sT); rfl | (with_reducible apply sF); rfl | (with_reducible apply sE); rfl); conv => arg 3; whnf)) | (refine sat_call (k_right v4 he 25 (by omega) (by omega)) ?_; rintro r H' ⟨rfl, rfl⟩; (conv => arg 3; whnf); repeat ((first | (with_reducible apply sT); rfl | (with_reducible apply sF); rfl | (with_reducible apply sE); rfl); conv => arg 3; whnf)) | (refine sat_call (k_right v0 ha 2 (by omega) (by omega)) ?_; rintro r H' ⟨rfl, rfl⟩; (conv => arg 3; whnf); repeat ((first | (with_reducible apply sT); rfl | (with_reducible apply sF); rfl | (with_reducible apply sE); rfl); conv => arg 3; whnf)) | (refine sat_call (k_right v0 ha 13 (by omega) (by omega)) ?_; rintro r H' ⟨rfl, rfl⟩; (conv => arg 3; whnf); repeat ((first | (with_reducible apply sT); rfl | (with_reducible apply sF); rfl | (with_reducible apply sE); rfl); conv => arg 3; whnf)) | (refine sat_call (k_right v0 ha 22 (by omega) (by omega)) ?_; rintro r H' ⟨rfl, rfl⟩; (conv => arg 3; whnf); repeat ((first | (with_reducible apply sT); rfl | (with_reducible apply sF); rfl | (with_reducible apply sE); rfl); conv => arg 3; whnf)))
      rw [Int.toNat_natCast]
      exact sat_ret ⟨⟨t + 1, hi⟩, rfl, by dsimp only; rw [hnx, hnv]; rfl, by show 64 - (t + 1) < 64 - t; omega⟩
    · have hi : t = 64 := by have := of_decide_eq_false hi; omega
      subst hi
      (conv => arg 3; whnf); repeat ((first | (with_reducible apply sT); rfl | (with_reducible apply sF); rfl | (with_reducible apply sE); rfl); conv => arg 3; whnf)
      exact sat_ret ⟨rfl, rfl, rfl⟩
  · rintro ex fr' H' ⟨rfl, rfl, rfl⟩
    show sat _ _ _
    generalize hv : (rs wt H 64).2 = v
    have hcomp : comp wt H = ad8 H v := by unfold comp; rw [hv]
    rw [hcomp]
    clear hcomp
    generalize (rs wt H 64).1 = ws
    (conv => arg 3; whnf); repeat ((first | (with_reducible apply sT); rfl | (with_reducible apply sF); rfl | (with_reducible apply sE); rfl); conv => arg 3; whnf)
    refine sat_loopOf mkX_ops (σ := ISt8) (fun s => [(1, pt 0), (4, pt 2), (101, ti s.i)])
      (fun s => [.var (pt 1), .var (.t (dT (mixL H v s.i) wt n)), .var (.t (.arr 8 v.l))]) (fun s => 8 - s.i)
      (fun ex fr' H' => ex = .exit 2 ∧ fr' = [] ∧ H' = [.var (pt 1), .var (.t (dT (mixL H v 8) wt n)), .var (.t (.arr 8 v.l))]) ⟨0, Nat.zero_le _⟩ ?_ ?_
    · rintro ⟨i, im⟩
      dsimp only
      refine sat_br (fun hi => ?_) (fun hi => ?_)
      · have hi : i < 8 := by have := of_decide_eq_true hi; omega
        have h8 : i = 0 ∨ i = 1 ∨ i = 2 ∨ i = 3 ∨ i = 4 ∨ i = 5 ∨ i = 6 ∨ i = 7 := by omega
        rcases h8 with rfl | rfl | rfl | rfl | rfl | rfl | rfl | rfl
        all_goals
          (conv => arg 3; whnf); repeat ((first | (with_reducible apply sT); rfl | (with_reducible apply sF); rfl | (with_reducible apply sE); rfl); conv => arg 3; whnf)
          repeat (first | ((with_reducible refine sat_rng ?_ ?_); (exact wrap64 (by omega) (by omega)); (conv => arg 3; whnf); repeat ((first | (with_reducible apply sT); rfl | (with_reducible apply sF); rfl | (with_reducible apply sE); rfl); conv => arg 3; whnf)) | ((with_reducible refine sat_asrt ?_ ?_); rfl; (conv => arg 3; whnf); repeat ((first | (with_reducible apply sT); rfl | (with_reducible apply sF); rfl | (with_reducible apply sE); rfl); conv => arg 3; whnf)) | ((with_reducible refine sat_rngw ?_); (conv => arg 3; whnf); repeat ((first | (with_reducible apply sT); rfl | (with_reducible apply sF); rfl | (with_reducible apply sE); rfl); conv => arg 3; whnf)) | ((refine sat_idx _ (by decide) rfl ?_); (conv => arg 3; whnf); repeat ((first | (with_reducible apply sT); rfl | (with_reducible apply sF); rfl | (with_reducible apply sE); rfl); conv => arg 3; whnf)))
          exact sat_ret ⟨⟨_, hi⟩, rfl, rfl, by dsimp only; decide⟩
      · have hi : i = 8 := by have := of_decide_eq_false hi; omega
        subst hi
        (conv => arg 3; whnf); repeat ((first | (with_reducible apply sT); rfl | (with_reducible apply sF); rfl | (with_reducible apply sE); rfl); conv => arg 3; whnf)
        exact sat_ret ⟨rfl, rfl, rfl⟩
    · rintro ex fr' H' ⟨rfl, rfl, rfl⟩
      (conv => arg 3; whnf); repeat ((first | (with_reducible apply sT); rfl | (with_reducible apply sF); rfl | (with_reducible apply sE); rfl); conv => arg 3; whnf)
      exact sat_ret ⟨rfl, rfl⟩
end Stk
