/- Several texts of this claim, joined into one file. -/
import Derived.Test.YthkbahbbdacgeaaDoorZj6
import Derived.Deep.LoopGhost
import Derived.Scope
import Derived.Laws.BitsLemmas
section
/- The framework: drawn regions, any order. -/
namespace Stk
open Go
variable {X : Cx} {Q : Ex → Fr → Hp → Prop}

structure RealS (ds : List IOp) (listed : Array Bool) (n : Nat) (M P : List Nat) (a b : Act) (N : Nat) : Prop where
  size : listed.size = n
  effs : ∀ (j : Nat) d, ds[j]? = some d → d.eff = true → j ∈ M → listed.getD j true = true
  pend : ∀ j ∈ M, listed.getD j true = false → j ∈ P
  maxi : ∀ (j : Nat) d, ds[j]? = some d → d.eff = false → (∀ x ∈ d.pre, x ∈ M) → j ∈ M
  sub : ∀ j, j < n → listed.getD j true = true → j ∈ M
  down : ∀ j, j < n → listed.getD j true = true → ∀ x ∈ preOf ds j, listed.getD x true = true
  asz : a.tmps.size = N
  adef : a.defers = []
  agree : ∀ t, (∀ j ∈ M, listed.getD j true = false → ∀ d, ds[j]? = some d → d.dst ≠ some t) → a.tmps.getD t undef = b.tmps.getD t undef

theorem ready_mem {ops : Array Oper} {listed : Array Bool} {i : Nat} : i ∈ Region.ready .any ops listed ↔ i < ops.size ∧ listed.getD i true = false ∧ ∃ o, ops[i]? = some o ∧ ∀ x ∈ o.after.toList, bindE x = true → listed.getD x.on false = true := by
  unfold Region.ready
  rw [List.mem_filter, List.mem_range]
  simp only [Bool.and_eq_true, Bool.not_eq_true']
  constructor
  · rintro ⟨h1, h2, h3⟩
    refine ⟨h1, h2, ops[i], by simp [h1], fun x hx hb => ?_⟩
    simp only [Array.getElem?_eq_getElem h1, Option.map_some, Option.getD_some, ← Array.all_toList, List.all_eq_true, Bool.or_eq_true, Bool.not_eq_true'] at h3
    rcases h3 x hx with h | h
    · unfold bindE at hb; rw [h] at hb; cases hb
    · exact h
  · rintro ⟨h1, h2, o, ho, h3⟩
    refine ⟨h1, h2, ?_⟩
    rw [ho]
    simp only [Option.map_some, Option.getD_some, ← Array.all_toList, List.all_eq_true, Bool.or_eq_true, Bool.not_eq_true']
    intro x hx
    cases hb : Region.binds .any x with
    | false => exact .inl rfl
    | true => exact .inr (h3 x hx hb)

theorem all_listed {ops : Array Oper} {ds : List IOp} (hD : DR X ops ds) {listed : Array Bool} (hs : listed.size = ops.size) (hr : Region.ready .any ops listed = []) : ∀ i, listed.getD i true = true := by
  intro i
  induction i using Nat.strongRecOn with
  | _ i ih =>
    rcases Nat.lt_or_ge i ops.size with hi | hi
    · cases hl : listed.getD i true with
      | true => rfl
      | false =>
        exfalso
        have hd : i < ds.length := by rw [hD.len]; exact hi
        have hD1 := hD.one i ops[i] ds[i] (by simp [hi]) (by simp [hd])
        have : i ∈ Region.ready .any ops listed := ready_mem.2 ⟨hi, hl, ops[i], by simp [hi], fun x hx hbx => by
          have hlt := hD1.back x hx hbx
          have := ih x.on hlt
          simp only [Array.getD_eq_getD_getElem?] at this ⊢
          have hx2 : x.on < listed.size := by omega
          simpa [Array.getElem?_eq_getElem hx2] using this⟩
        rw [hr] at this; cases this
    · simp [Array.getD_eq_getD_getElem?, Array.getElem?_eq_none (by omega : listed.size ≤ i)]

theorem drawn_main {ops : Array Oper} {ds : List IOp} (hD : DR X ops ds) {Qe : Exit → Act → World → Prop} {k : Fr → Hp → T} {e0 : Env} {H0 : Hp} {w0 : World}
    (hn : ∀ fr' a' e' H' w', FrR X.N e' fr' a' → Step X.G e0 H0 w0 e' H' w' → sat X Q (k fr' H') → Qe .normal a' w') :
    ∀ (fuel : Nat) {listed : Array Bool} {M P : List Nat} {fr : Fr} {H : Hp} {e : Env} {w : World} {a b : Act} {n : Nat}, unl listed ops.size = fuel → Step X.G e0 H0 w0 e H w →
      RealS ds listed ops.size M P a b X.N → Sim X ops ds (fun j => listed.getD j true = false) M P fr H e w b → sat X Q (pickT n ds M P fr H k) → wpAny X.P .any ops Qe fuel listed a w := by
  intro fuel
  induction fuel with
  | zero =>
    intro listed M P fr H e w a b n hu hst hR hS h
    have hall : ∀ i, listed.getD i true = true := by
      intro i
      rcases Nat.lt_or_ge i ops.size with hi | hi
      · cases hl : listed.getD i true with
        | true => rfl
        | false =>
          have := unl_set hR.size hi hl
          omega
      · simp [Array.getD_eq_getD_getElem?, Array.getElem?_eq_none (by rw [hR.size]; exact hi : listed.size ≤ i)]
    refine ⟨?_, ?_⟩
    · cases hrd : Region.ready .any ops listed with
      | nil => rfl
      | cons i r =>
        have : i ∈ Region.ready .any ops listed := by rw [hrd]; exact List.mem_cons_self ..
        have := (ready_mem.1 this).2.1
        rw [hall i] at this; cases this
    · cases n with
      | zero => exact h.elim
      | succ n =>
        simp only [pickT] at h
        have hM : allN 0 ds M = true := allN_iff.2 fun j hj => by rw [Nat.zero_add]; exact hR.sub j (by rw [← hD.len]; exact hj) (hall j)
        rw [hM] at h
        refine hn fr a e H w ⟨hR.asz, hR.adef, fun t => ?_⟩ hst h
        rw [hR.agree t (fun j _ hl => by rw [hall j] at hl; cases hl)]
        exact hS.frr.slot t
  | succ fuel ih =>
    intro listed M P fr H e w a b n hu hst hR hS h
    refine ⟨fun hrd => ?_, fun i hi => ?_⟩
    · exfalso
      have hall := all_listed hD hR.size hrd
      have : unl listed ops.size = 0 := by
        unfold unl
        rw [List.countP_eq_zero]
        intro j _
        simp [hall j]
      omega
    · obtain ⟨hi1, hi2, o, ho, hi3⟩ := ready_mem.1 hi
      have hid : i < ds.length := by rw [hD.len]; exact hi1
      have hd : ds[i]? = some ds[i] := by simp [hid]
      generalize ds[i] = d at hd
      have h1 := hD.one i o d ho hd
      obtain ⟨e1, e2, e3⟩ := h1.dsts
      have hsz : i < listed.size := by rw [hR.size]; exact hi1
      have hL' := listed_set hsz
      have hu' : unl (listed.setIfInBounds i true) ops.size = fuel := by have := unl_set hR.size hi1 hi2; omega
      -- what it waits for has been done
      have hpre : ∀ x ∈ d.pre, listed.getD x true = true := by
        intro x hx
        obtain ⟨hlt, ed, hed, hb, hx2⟩ := h1.pre x hx
        have hon := hi3 ed hed hb
        have hlt2 := h1.back ed hed hb
        have hon' : listed.getD ed.on true = true := by
          simp only [Array.getD_eq_getD_getElem?] at hon ⊢
          have : ed.on < listed.size := by omega
          simpa [Array.getElem?_eq_getElem this] using hon
        rcases hx2 with rfl | hx2
        · exact hon'
        · exact hR.down ed.on (by omega) hon' x hx2
      have hpreM : ∀ x ∈ d.pre, x ∈ M := fun x hx => hR.sub x (by have := (h1.pre x hx).1; omega) (hpre x hx)
      have hsame : Same ops o b a := by
        intro t ht
        refine (hR.agree t fun j hj hl dj hdj hdd => ?_).symm
        rcases h1.look t ht j dj hdj hdd with h2 | ⟨h2, _⟩
        · rw [hpre j h2] at hl; cases hl
        · rw [hR.effs j dj hdj h2 hj] at hl; cases hl
      have hbsz : b.tmps.size = a.tmps.size := by rw [hS.frr.size, hR.asz]
      have hexec := same_exec e3 hsame
      have hwant := same_wanted hbsz hsame
      have hb1 : ∀ x, o.dst = some x → x < a.tmps.size := fun x hx => by rw [hR.asz]; exact e2 x hx
      have hb2 : ∀ x, o.dst = some x → x < b.tmps.size := fun x hx => by rw [hS.frr.size]; exact e2 x hx
      have hdown : ∀ j, j < ops.size → (listed.setIfInBounds i true).getD j true = true → ∀ x ∈ preOf ds j, (listed.setIfInBounds i true).getD x true = true := by
        intro j hj hl x hx
        rw [hL'] at hl ⊢
        by_cases hji : j = i
        · subst hji
          simp only [preOf, hd] at hx
          rw [hpre x hx]; simp
        · rw [if_neg hji] at hl
          rw [hR.down j hj hl x hx]; simp
      unfold wpOp
      simp only [ho]
      cases he : d.eff with
      | false =>
        have hiM := hR.maxi i d hd he hpreM
        obtain ⟨c, hyc, hcv⟩ := hS.yc i (hR.pend i hiM hi2) hi2 o ho
        have hyc := hyc.same e3 hbsz hsame
        have hR' : RealS ds (listed.setIfInBounds i true) ops.size M P (a.put o.dst c) b X.N := by
          refine ⟨by simp [hR.size], fun j dj hj hje hjM => ?_, fun j hj hl => ?_, hR.maxi, fun j hj hl => ?_, hdown, by rw [put_size]; exact hR.asz, by rw [put_defers]; exact hR.adef, fun t ht => ?_⟩
          · rw [hL']; split
            · rfl
            · exact hR.effs j dj hj hje hjM
          · rw [hL'] at hl
            split at hl
            · cases hl
            · exact hR.pend j hj hl
          · rw [hL'] at hl
            by_cases hji : j = i
            · subst hji; exact hiM
            · rw [if_neg hji] at hl; exact hR.sub j hj hl
          · rw [put_getD a _ _ _ hb1]
            split
            · rename_i hot; exact (hcv t hot).symm
            · rename_i hot
              refine hR.agree t fun j hj hl dj hdj => ?_
              by_cases hji : j = i
              · subst hji
                rw [hd] at hdj; obtain rfl := Option.some.inj hdj
                rw [← e1]; exact hot
              · exact ht j hj (by rw [hL', if_neg hji]; exact hl) dj hdj
        have hS' : Sim X ops ds (fun j => (listed.setIfInBounds i true).getD j true = false) M P fr H e w b :=
          ⟨hS.frr, hS.clo, hS.pin, fun j hj hl => hS.yc j hj (by
            simp only [hL'] at hl
            split at hl
            · cases hl
            · exact hl)⟩
        have fin := ih hu' hst hR' hS' h
        rcases hyc with ⟨hw, hrun⟩ | ⟨hw, hc⟩
        · rw [if_pos hw]
          left
          unfold Oper.wp
          rcases hrun with hrun | ⟨hrun, rfl⟩
          · rw [hrun]; exact fin
          · rw [hrun]; exact fin
        · rw [if_neg (by rw [hw]; simp)]
          subst hc; exact fin
      | true =>
        have hiM : i ∉ M := fun hm => by rw [hR.effs i d hd he hm] at hi2; cases hi2
        cases n with
        | zero => exact h.elim
        | succ n =>
          simp only [pickT] at h
          split at h
          · rename_i hall
            exact absurd (by have := allN_iff.1 hall i hid; simpa using this) hiM
          · have hc := (cands_sound h).2 i d hd he (by simpa using hiM) hpreM
            rw [Nat.zero_add] at hc
            -- behind it
            have behind {c : Value} {fr1 : Fr} {e' : Env} {H1 : Hp} {w' : World} (hf1 : FrR X.N e' fr1 (b.put o.dst c)) (hs1 : Step X.G e H w e' H1 w')
                (hk : sat X Q (againsT (dropN d.pre P) 0 ds fr1 H1 (readsT 0 ds (i :: M) (dropN d.pre P) fr1 H1 fun M' P' fr'' => pickT n ds M' P' fr'' H1 k))) :
                wpAny X.P .any ops Qe fuel (listed.setIfInBounds i true) (a.put o.dst c) w' := by
              have hP' : ∀ j ∈ dropN d.pre P, ∃ dj, ds[j]? = some dj ∧ dj.eff = false := fun j hj => (hS.pin j (dropN_iff.1 hj).1).2
              obtain ⟨b1, g1, g2, g3, g4⟩ := agains_sound (S := fun j => (listed.setIfInBounds i true).getD j true = false) hD hs1.rel hP' (i := 0) rfl hf1 (fun j _ _ hj => by omega) hk
              have hsim1 : Sim X ops ds (fun j => (listed.setIfInBounds i true).getD j true = false) (i :: M) (dropN d.pre P) fr1 H1 e' w' b1 := by
                refine ⟨g1, fun j hj x hx => ?_, fun j hj => ?_, g2⟩
                · rcases List.mem_cons.1 hj with rfl | hj
                  · simp only [preOf, hd] at hx; exact List.mem_cons_of_mem _ (hpreM x hx)
                  · exact List.mem_cons_of_mem _ (hS.clo j hj x hx)
                · have := hS.pin j (dropN_iff.1 hj).1
                  exact ⟨List.mem_cons_of_mem _ this.1, this.2⟩
              obtain ⟨M', P', fr2, b2, k1, k2, k3, k0, k4, k5, k6⟩ := reads_sound hD hs1.rel (i := 0) rfl hsim1 g3
              refine ih hu' (hst.trans hs1) ⟨by simp [hR.size], fun j dj hj hje hjM => ?_, fun j hj hl => ?_, fun j dj hj hje hp => k6 j dj (Nat.zero_le _) hj hje hp, fun j hj hl => ?_, hdown, by rw [put_size]; exact hR.asz, by rw [put_defers]; exact hR.adef, fun t ht => ?_⟩ k1 k2
              · rw [hL']
                split
                · rfl
                · rename_i hji
                  rcases k4 j hjM with h2 | ⟨_, _, d2, h3, h4⟩
                  · rcases List.mem_cons.1 h2 with rfl | h2
                    · exact absurd rfl hji
                    · exact hR.effs j dj hj hje h2
                  · rw [hj] at h3; obtain rfl := Option.some.inj h3
                    rw [hje] at h4; cases h4
              · rw [hL'] at hl
                split at hl
                · cases hl
                · rename_i hji
                  rcases k4 j hj with h2 | ⟨_, h2, _⟩
                  · rcases List.mem_cons.1 h2 with rfl | h2
                    · exact absurd rfl hji
                    · refine k0 j (dropN_iff.2 ⟨hR.pend j h2 hl, fun hp => ?_⟩)
                      rw [hpre j hp] at hl; cases hl
                  · exact h2
              · rw [hL'] at hl
                by_cases hji : j = i
                · subst hji; exact k3 j (List.mem_cons_self ..)
                · rw [if_neg hji] at hl; exact k3 j (List.mem_cons_of_mem _ (hR.sub j hj hl))
              · have unl' : ∀ j, j ∉ M → j ≠ i → j < ops.size → (listed.setIfInBounds i true).getD j true = false := fun j hjM hji hj => by
                  rw [hL', if_neg hji]
                  cases hl : listed.getD j true with
                  | false => rfl
                  | true => exact absurd (hR.sub j hj hl) hjM
                rw [k5 t (fun j hj hjM dj hdj => ht j hj (unl' j (fun hm => hjM (List.mem_cons_of_mem _ hm)) (fun e => hjM (e ▸ List.mem_cons_self ..)) (by rw [← hD.len]; exact lt_of_get hdj)) dj hdj),
                  g4 t (fun j hj hS2 dj hdj => ht j (k3 j (List.mem_cons_of_mem _ (hS.pin j (dropN_iff.1 hj).1).1)) hS2 dj hdj),
                  put_getD a _ _ _ hb1, put_getD b _ _ _ hb2]
                split
                · rfl
                · rename_i hot
                  refine hR.agree t fun j hj hl dj hdj => ?_
                  by_cases hji : j = i
                  · subst hji; exact absurd hj hiM
                  · exact ht j (k3 j (List.mem_cons_of_mem _ hj)) (by rw [hL', if_neg hji]; exact hl) dj hdj
            rcases iop_upon h1.iop hst.rel hS.frr hc with ⟨hw, hup⟩ | ⟨hw, fr1, hf1, hk⟩
            · rw [if_pos (by rw [← hwant]; exact hw)]
              left
              rw [hexec] at hup
              exact hup.wp fun c w' ⟨fr1, e', H1, hf1, hs1, hk⟩ => behind hf1 hs1 hk
            · rw [if_neg (by rw [← hwant, hw]; simp)]
              exact behind hf1 (Step.refl hst.rel) hk

theorem drawn_sound {id : Nat} {ops : Array Oper} {ds : List IOp} (hc : chkD X.P X.G X.N ops ds = true) {fr : Fr} {a : Act} {e : Env} {H : Hp} {w : World} {k : Fr → Hp → T} (hr : Rel X.G e H w) (hf : FrR X.N e fr a) (h : sat X Q (dregT ds fr H k))
    {Qe : Exit → Act → World → Prop} (hn : ∀ fr' a' e' H' w', FrR X.N e' fr' a' → Step X.G e H w e' H' w' → sat X Q (k fr' H') → Qe .normal a' w') : (Code.region id ops true).wp X.P Qe a w := by
  have hD := chkD_spec hc
  refine wp_region_any hD.mixed ?_
  have hd := Step.drew hr
  have hrd : Rel X.G e H { w with drawn := w.drawn + 1 } := hd.rel
  unfold dregT at h
  obtain ⟨M, P, fr', b, g1, g2, g3, g0, g4, g5, g6⟩ := reads_sound (S := fun _ => True) hD hrd (i := 0) (M := []) (P := []) rfl ⟨hf, by simp, by simp, by simp⟩ h
  have hl0 : ∀ j, j < ops.size → (Array.replicate ops.size false).getD j true = false := fun j hj => by simp [Array.getD_eq_getD_getElem?, hj]
  have hno : ∀ j, j < ops.size → ¬ (Array.replicate ops.size false).getD j true = true := fun j hj h => by rw [hl0 j hj] at h; cases h
  have hfu : unl (Array.replicate ops.size false) ops.size = ops.size := by
    unfold unl
    have : ∀ j ∈ List.range ops.size, (fun i => !((Array.replicate ops.size false).getD i true)) j = true := fun j hj => by
      rw [List.mem_range] at hj
      simp only [hl0 j hj]; rfl
    rw [List.countP_eq_length.2 this, List.length_range]
  refine drawn_main hD (e0 := e) (H0 := H) (w0 := w) hn ops.size (b := b) hfu hd ⟨by simp, fun j d hj he hM => ?_, fun j hj _ => ?_, fun j d hj he hp => g6 j d (Nat.zero_le _) hj he hp, fun j hj h => absurd h (hno j hj), fun j hj h => absurd h (hno j hj), hf.size, hf.defers, fun t ht => ?_⟩ ⟨g1.frr, g1.clo, g1.pin, fun j hj _ => g1.yc j hj trivial⟩ g2
  · rcases g4 j hM with h1 | ⟨_, _, d2, h3, h4⟩
    · cases h1
    · rw [hj] at h3; obtain rfl := Option.some.inj h3
      rw [he] at h4; cases h4
  · rcases g4 j hj with h1 | ⟨_, h2, _⟩
    · cases h1
    · exact h2
  · refine (g5 t fun j hj _ d hd => ht j hj (hl0 j ?_) d hd).symm
    rw [← hD.len]; exact lt_of_get hd
end Stk
end

section
/- The framework, part 17: loops' names. -/
namespace Stk
open Go
variable {X : Cx} {Q : Ex → Fr → Hp → Prop} {e : Env} {H : Hp} {w : World}

theorem mvd_row {mv : List Nat} {b : Nat} {o : AO} (h : mvd mv b o = false) : isRow o = false := by
  cases o <;> first | rfl | simp [mvd] at h
theorem mvd_eq {mv : List Nat} {b : Nat} {o o' : AO} (h : isRow o' = isRow o) : mvd mv b o' = mvd mv b o := by
  cases o <;> cases o' <;> first | rfl | simp [isRow] at h

/-- The list of moves of a focus. -/
structure Moves (mv : List Nat) (Hs : Hp) (ms : List Bool) : Prop where
  len : ms.length = Hs.length
  get : ∀ (i : Nat) o, Hs[i]? = some o → ms[i]? = some (mvd mv i o)
theorem movesK_sound {mv : List Nat} : ∀ {os : Hp} {n : Nat} {k : List Bool → T}, sat X Q (movesK mv n os k) → ∃ ms, sat X Q (k ms) ∧ ms.length = os.length ∧ ∀ (i : Nat) o, os[i]? = some o → ms[i]? = some (mvd mv (n + i) o)
  | [], n, k, h => ⟨[], h, rfl, fun i o ho => by simp at ho⟩
  | o :: os, n, k, h => by
    have key (b : Bool) (hb : mvd mv n o = b) (h : sat X Q (movesK mv (n + 1) os fun r => k (b :: r))) : ∃ ms, sat X Q (k ms) ∧ ms.length = (o :: os).length ∧ ∀ (i : Nat) o', (o :: os)[i]? = some o' → ms[i]? = some (mvd mv (n + i) o') := by
      obtain ⟨ms, h1, h2, h3⟩ := movesK_sound h
      refine ⟨_, h1, by simp [h2], fun i o' ho => ?_⟩
      cases i with
      | zero => simp at ho; subst ho; simp [hb]
      | succ i =>
        have := h3 i o' (by simpa using ho)
        rw [show n + (i + 1) = n + 1 + i by omega]; simpa using this
    simp only [movesK] at h
    split at h
    · rename_i hb; exact key true hb h
    · rename_i hb; exact key false hb h
theorem moves_sound {mv : List Nat} {Hs : Hp} {k : List Bool → T} (h : sat X Q (movesK mv 0 Hs k)) : ∃ ms, sat X Q (k ms) ∧ Moves mv Hs ms := by
  obtain ⟨ms, h1, h2, h3⟩ := movesK_sound h
  exact ⟨ms, h1, h2, fun i o ho => by have := h3 i o ho; rwa [Nat.zero_add] at this⟩

def afR (ρ : List Nat) (ms : List Bool) (n : Nat) (j b : Nat) : Prop :=
  (ρ[j]? = some b ∧ ms[j]? = some false) ∨ ((ρ.length ≤ j ∨ ms[j]? = some true) ∧ b = n + j)

theorem afterName_ok (ρ : List Nat) (ms : List Bool) (n : Nat) (hl : ms.length = ρ.length) : FnOK X Q (afterName ρ ms n) (afR ρ ms n) := by
  intro b no k h
  refine .inr ?_
  have : ∀ (l : List Nat) (hs : List Bool) (j : Nat), hs.length = l.length → sat X Q (afterName.go n b k l hs j) →
      (∃ c, sat X Q (k c) ∧ l[j]? = some c ∧ hs[j]? = some false) ∨ (sat X Q (k (n + b)) ∧ (l.length ≤ j ∨ hs[j]? = some true)) := by
    intro l
    induction l with
    | nil =>
      intro hs j hl h
      have : hs = [] := List.length_eq_zero_iff.1 hl
      subst this
      simp only [afterName.go, litK_eq] at h
      exact .inr ⟨h, .inl (Nat.zero_le _)⟩
    | cons c r ih =>
      intro hs j hl h
      cases hs with
      | nil => simp at hl
      | cons o os =>
        cases j with
        | zero =>
          cases o with
          | true => simp only [afterName.go, litK_eq] at h; exact .inr ⟨h, .inr rfl⟩
          | false => simp only [afterName.go] at h; exact .inl ⟨c, h, rfl, rfl⟩
        | succ j =>
          have h : sat X Q (afterName.go n b k r os j) := by
            cases o <;> simpa only [afterName.go] using h
          rcases ih os j (by simpa using hl) h with ⟨c', h1, h2, h3⟩ | ⟨h1, h2⟩
          · exact .inl ⟨c', h1, by simpa using h2, by simpa using h3⟩
          · exact .inr ⟨h1, h2.imp (by simp) (by simp)⟩
  rcases this ρ ms b hl h with ⟨c, h1, h2, h3⟩ | ⟨h1, h2⟩
  · exact ⟨c, .inl ⟨h2, h3⟩, h1⟩
  · exact ⟨n + b, .inr ⟨h2, rfl⟩, h1⟩

theorem takeRows_sound {k : Hp → T} : ∀ {l : List Nat} {ms : List Bool} {H' : Hp}, ms.length = l.length → l.Nodup → sat X Q (takeRowsK l ms H' k) →
    ∃ H1, sat X Q (k H1) ∧ H1.length = H'.length ∧ (∀ b, b ∉ l → H1[b]? = H'[b]?) ∧ (∀ (i b : Nat), l[i]? = some b → (ms[i]? = some true ∧ H1[b]? = some .gone) ∨ (ms[i]? = some false ∧ H1[b]? = H'[b]?))
  | [], ms, H', hl, _, h => by
    have : ms = [] := List.length_eq_zero_iff.1 hl
    subst this
    exact ⟨H', by simpa only [takeRowsK] using h, rfl, fun _ _ => rfl, fun i b hb => by simp at hb⟩
  | b :: r, [], H', hl, _, h => by simp at hl
  | b :: r, true :: ms, H', hl, hn, h => by
    rw [List.nodup_cons] at hn
    simp only [takeRowsK] at h
    obtain ⟨hlt, h⟩ := sat_setK h
    obtain ⟨H1, h1, h2, h3, h4⟩ := takeRows_sound (by simpa using hl) hn.2 h
    refine ⟨H1, h1, by simpa using h2, ?_, ?_⟩
    · intro c hc
      simp only [List.mem_cons, not_or] at hc
      rw [h3 c hc.2, List.getElem?_set, if_neg (fun e => hc.1 e.symm)]
    · intro i c hc
      cases i with
      | zero =>
        simp at hc; subst hc
        exact .inl ⟨rfl, by rw [h3 _ hn.1]; simp [hlt]⟩
      | succ i =>
        have hc : r[i]? = some c := by simpa using hc
        rcases h4 i c hc with ⟨g1, g2⟩ | ⟨g1, g2⟩
        · exact .inl ⟨by simpa using g1, g2⟩
        · refine .inr ⟨by simpa using g1, ?_⟩
          have hcb : b ≠ c := by rintro rfl; exact hn.1 (List.mem_of_getElem? hc)
          rw [g2, List.getElem?_set, if_neg hcb]
  | b :: r, false :: ms, H', hl, hn, h => by
    rw [List.nodup_cons] at hn
    simp only [takeRowsK] at h
    obtain ⟨H1, h1, h2, h3, h4⟩ := takeRows_sound (by simpa using hl) hn.2 h
    refine ⟨H1, h1, h2, fun c hc => h3 c (by simp only [List.mem_cons, not_or] at hc; exact hc.2), ?_⟩
    intro i c hc
    cases i with
    | zero =>
      simp at hc; subst hc
      exact .inr ⟨rfl, h3 _ hn.1⟩
    | succ i =>
      rcases h4 i c (by simpa using hc) with ⟨g1, g2⟩ | ⟨g1, g2⟩
      · exact .inl ⟨by simpa using g1, g2⟩
      · exact .inr ⟨by simpa using g1, g2⟩

theorem afterK_sound {f : Nat → T → (Nat → T) → T} {R : Nat → Nat → Prop} {ρ : List Nat} {ms : List Bool} {n : Nat} (hfe : f = afterName ρ ms n) (hf : FnOK X Q f R) : ∀ {l : List Nat} {hs : List Bool} {os H : Hp} {k : Hp → T}, hs.length = l.length → l.Nodup → (∀ b ∈ l, b < H.length) →
    sat X Q (afterK ρ ms n l hs os H k) → ∃ H', sat X Q (k H') ∧ H'.length = H.length + os.length ∧
      (∀ (j : Nat) o, os[j]? = some o → ∃ o', RenO R o o' ∧ ((∃ c, l[j]? = some c ∧ hs[j]? = some false ∧ H'[c]? = some o' ∧ H'[H.length + j]? = some .gone) ∨ ((l.length ≤ j ∨ hs[j]? = some true) ∧ H'[H.length + j]? = some o'))) ∧
      (∀ b, b < H.length → (∀ (j : Nat) h o, l[j]? = some b → hs[j]? = some h → os[j]? = some o → h = true) → H'[b]? = H[b]?)
  | l, hs, [], H, k, hl, hn, hb, h => by
    have h' : sat X Q (k H) := by
      cases l <;> cases hs <;> simpa only [afterK] using h
    exact ⟨H, h', by simp, by simp, fun _ _ _ => rfl⟩
  | [], hs, o :: os, H, k, hl, hn, hb, h => by
    have : hs = [] := List.length_eq_zero_iff.1 hl
    subst this
    simp only [afterK, ← hfe] at h
    obtain ⟨o', ho', h⟩ := renOK_sound hf h
    rw [snocK_eq] at h
    obtain ⟨H', h1, h2, h3, h4⟩ := afterK_sound hfe hf (l := []) (hs := []) rfl (by simp) (by simp) h
    refine ⟨H', h1, by simp at h2 ⊢; omega, ?_, ?_⟩
    · intro j x hx
      cases j with
      | zero =>
        simp at hx; subst hx
        refine ⟨o', ho', .inr ⟨.inl (by simp), ?_⟩⟩
        rw [h4 _ (by simp) (by simp)]; simp
      | succ j =>
        obtain ⟨x', g1, g2⟩ := h3 j x (by simpa using hx)
        refine ⟨x', g1, ?_⟩
        rcases g2 with ⟨c, g2, _⟩ | ⟨g2, g3⟩
        · simp at g2
        · refine .inr ⟨.inl (by simp), ?_⟩
          rw [List.length_append, List.length_singleton] at g3
          rw [show H.length + (j + 1) = H.length + 1 + j by omega]; exact g3
    · intro b hb' _
      rw [h4 b (by simp; omega) (by simp), List.getElem?_append_left hb']
  | b :: r, [], o :: os, H, k, hl, hn, hb, h => by simp at hl
  | b :: r, g :: hs, o :: os, H, k, hl, hn, hb, h => by
    simp only [afterK, ← hfe] at h
    obtain ⟨o', ho', h⟩ := renOK_sound hf h
    rw [List.nodup_cons] at hn
    have hbl := hb b (by simp)
    -- both ways the heap grows by one
    have step : ∃ H1, sat X Q (afterK ρ ms n r hs os H1 k) ∧ H1.length = H.length + 1 ∧ (∀ c, c < H.length → (c = b → g = true) → H1[c]? = H[c]?) ∧
        ((g = false ∧ H1[b]? = some o' ∧ H1[H.length]? = some .gone) ∨ (g = true ∧ H1[H.length]? = some o')) := by
      cases g with
      | true =>
        rw [snocK_eq] at h
        exact ⟨_, h, by simp, fun c hc _ => by rw [List.getElem?_append_left hc], .inr ⟨rfl, by simp⟩⟩
      | false =>
        obtain ⟨_, h⟩ := sat_setK h
        rw [snocK_eq] at h
        refine ⟨_, h, by simp, fun c hc hcb => ?_, .inl ⟨rfl, ?_, ?_⟩⟩
        · have : c ≠ b := fun e => by have := hcb e; cases this
          rw [List.getElem?_append_left (by simpa using hc), List.getElem?_set, if_neg (fun e => this e.symm)]
        · rw [List.getElem?_append_left (by simpa using hbl)]; simp [hbl]
        · rw [List.getElem?_append_right (by simp)]; simp
    obtain ⟨H1, h, h1, h2, h3⟩ := step
    obtain ⟨H', k1, k2, k3, k4⟩ := afterK_sound hfe hf (by simpa using hl) hn.2 (fun c hc => by have := hb c (by simp [hc]); omega) h
    have hbr : ∀ (j : Nat) (h : Bool) (o : AO), r[j]? = some b → hs[j]? = some h → os[j]? = some o → h = true := fun j _ _ hj => absurd (mem_of_get hj) hn.1
    have hnr : ∀ (j : Nat) (h : Bool) (o : AO), r[j]? = some H.length → hs[j]? = some h → os[j]? = some o → h = true := fun j _ _ hj => by
      have := hb _ (List.mem_cons_of_mem _ (mem_of_get hj)); omega
    refine ⟨H', k1, by simp [k2, h1]; omega, ?_, ?_⟩
    · intro j x hx
      cases j with
      | zero =>
        simp at hx; subst hx
        refine ⟨o', ho', ?_⟩
        rcases h3 with ⟨g1, g2, g3⟩ | ⟨g1, g2⟩
        · exact .inl ⟨b, rfl, by rw [g1]; rfl, by rw [k4 b (by omega) hbr, g2], by rw [Nat.add_zero, k4 _ (by omega) hnr, g3]⟩
        · exact .inr ⟨.inr (by rw [g1]; rfl), by rw [Nat.add_zero, k4 _ (by omega) hnr, g2]⟩
      | succ j =>
        obtain ⟨x', g1, g2⟩ := k3 j x (by simpa using hx)
        refine ⟨x', g1, ?_⟩
        rw [h1] at g2
        rw [show H.length + (j + 1) = H.length + 1 + j by omega]
        rcases g2 with ⟨c, g2, g3, g5, g6⟩ | ⟨g2, g3⟩
        · exact .inl ⟨c, by simpa using g2, by simpa using g3, g5, g6⟩
        · exact .inr ⟨g2.imp (by simp) (by simp), g3⟩
    · intro c hc hcr
      rw [k4 c (by omega) (fun j h o g1 g2 g3 => hcr (j + 1) h o (by simpa using g1) (by simpa using g2) (by simpa using g3))]
      exact h2 c hc (fun e => hcr 0 g o (by simp [e]) rfl rfl)
end Stk
end

section
/- The framework, part 18: code. -/
namespace Stk
open Go
variable {X : Cx} {Q : Ex → Fr → Hp → Prop} {e : Env} {H : Hp} {w : World}

theorem boOK_self (hr : Rel X.G e H w) {ρ : List Nat} (hg : Good H ρ) : BoOK e ρ w e.bo :=
  ⟨fun _ _ h => h, fun k m h => hr.mem k m (.inr h), fun b hb k hk => (hr.sepO b (hg.live b hb) k hk).2⟩

theorem liveK_eq (fr : Fr) : ∀ (ts : List Nat) (k : List AV → T), liveK fr ts k = k (ts.map (fr.at ·))
  | [], k => rfl
  | t :: ts, k => by simp only [liveK, lk_eq, liveK_eq fr ts]; rfl

theorem zipFr_at : ∀ {live : List Nat} {vs : List AV} (t : Nat), (∃ i : Nat, live[i]? = some t ∧ vs[i]? = some ((zipFr live vs).at t)) ∨ (zipFr live vs).at t = .undef
  | [], vs, t => .inr (by simp [zipFr, Fr.at])
  | _ :: _, [], t => .inr (by simp [zipFr, Fr.at])
  | l :: ls, v :: vs, t => by
    simp only [zipFr, Fr.at_cons]
    by_cases h : l = t
    · subst h; rw [if_pos rfl]; exact .inl ⟨0, rfl, rfl⟩
    · rw [if_neg h]
      rcases zipFr_at (live := ls) (vs := vs) t with ⟨i, h1, h2⟩ | h1
      · exact .inl ⟨i + 1, by simpa using h1, by simpa using h2⟩
      · exact .inr h1

theorem vals_get {e : Env} : ∀ {xs : List AV} {cs : List Value} {i : Nat} {x : AV}, AV.vals e xs cs → xs[i]? = some x → ∃ c, cs[i]? = some c ∧ AV.val e x c
  | [], _, i, x, _, hx => by simp at hx
  | y :: xs, cs, i, x, h, hx => by
    simp only [AV.vals] at h
    obtain ⟨c, b, rfl, h1, h2⟩ := h
    cases i with
    | zero => simp at hx; subst hx; exact ⟨c, rfl, h1⟩
    | succ i => obtain ⟨c', h3, h4⟩ := vals_get h2 (by simpa using hx); exact ⟨c', by simpa using h3, h4⟩

/-- The live slots, in a focus. -/
theorem foc_frame {fr : Fr} {a : Act} (hf : FrR X.N e fr a) {live : List Nat} {vs' : List AV} {R : Nat → Nat → Prop} {e2 : Env} (hvs : RenVs R (live.map (fr.at ·)) vs') (hren : Ren R e e2) (hh : Holds e e2) : FrR X.N e2 (zipFr live vs') a := by
  refine ⟨hf.size, hf.defers, fun t => ?_⟩
  have hv : AV.vals e (live.map (fr.at ·)) (live.map fun t => a.tmps.getD t undef) := by
    have : ∀ l : List Nat, AV.vals e (l.map (fr.at ·)) (l.map fun t => a.tmps.getD t undef) := by
      intro l
      induction l with
      | nil => simp [AV.vals]
      | cons t r ih => simp only [List.map_cons, AV.vals]; exact ⟨_, _, rfl, hf.slot t, ih⟩
    exact this live
  have hv' := (hvs e e2 hren (.inl hh)).2 _ hv
  rcases zipFr_at (live := live) (vs := vs') t with ⟨i, h1, h2⟩ | h1
  · obtain ⟨c, h3, h4⟩ := vals_get hv' h2
    rw [List.getElem?_map, h1] at h3
    have h3 : a.tmps.getD t undef = c := Option.some.inj h3
    rw [h3]; exact h4
  · rw [h1]; simp [AV.val]

def RenF (R : Nat → Nat → Prop) (fr fr' : Fr) : Prop := ∀ e e', Ren R e e' → Holds e e' → ∀ t c, AV.val e (fr.at t) c → AV.val e' (fr'.at t) c
theorem renFr_sound {f : Nat → T → (Nat → T) → T} {R : Nat → Nat → Prop} (hf : FnOK X Q f R) : ∀ {fr : Fr} {k : Fr → T}, sat X Q (renFrK f fr k) → ∃ fr', RenF R fr fr' ∧ sat X Q (k fr')
  | [], k, h => ⟨[], fun e e' _ _ t c _ => by simp [Fr.at, AV.val], h⟩
  | (n, v) :: r, k, h => by
    simp only [renFrK] at h
    obtain ⟨v', hv, h⟩ := renK_sound hf h
    obtain ⟨r', hr, h⟩ := renFr_sound hf h
    refine ⟨_, fun e e' hren hh t c hc => ?_, h⟩
    rw [Fr.at_cons] at hc ⊢
    by_cases ht : n = t
    · rw [if_pos ht] at hc ⊢; exact (hv e e' hren (.inl hh)).2 _ hc
    · rw [if_neg ht] at hc ⊢; exact hr e e' hren hh t c hc

def Env.after (e e2 : Env) (ρ : List Nat) (n : Nat) : Env := ⟨fun b => if b < n then e.β b else e2.β (b - n), e2.ro, e.bo, fun b => if b < n then backσ e e2 ρ b else e2.σ (b - n)⟩

theorem loop_back {mv : List Nat} {ms : List Bool} {ρ : List Nat} {Hs Hs' H1 : Hp} {e2 : Env} {H' : Hp} {w' : World} (hr : Rel X.G e H w) (hg : Good H ρ) (hf : Foc H (inR ρ) ρ Hs) (hm : Moves mv Hs ms) (hs : StepL X.G mv (e.foc ρ e.bo) Hs w e2 Hs' w')
    (t1 : H1.length = H.length) (t2 : ∀ b, b ∉ ρ → H1[b]? = H[b]?) (t3 : ∀ (i b : Nat), ρ[i]? = some b → (ms[i]? = some true ∧ H1[b]? = some .gone) ∨ (ms[i]? = some false ∧ H1[b]? = H[b]?))
    (h1 : H'.length = H1.length + Hs'.length)
    (h2 : ∀ (j : Nat) o, Hs'[j]? = some o → ∃ o', RenO (afR ρ ms H.length) o o' ∧ ((∃ c, ρ[j]? = some c ∧ ms[j]? = some false ∧ H'[c]? = some o' ∧ H'[H1.length + j]? = some .gone) ∨ ((ρ.length ≤ j ∨ ms[j]? = some true) ∧ H'[H1.length + j]? = some o')))
    (h3 : ∀ b, b < H1.length → (∀ (j : Nat) h o, ρ[j]? = some b → ms[j]? = some h → Hs'[j]? = some o → h = true) → H'[b]? = H1[b]?) :
    Step X.G e H w (e.after e2 ρ H.length) H' w' ∧ Ren (afR ρ ms H.length) e2 (e.after e2 ρ H.length) ∧ Holds e2 (e.after e2 ρ H.length) := by
  have hρl : ∀ i b, ρ[i]? = some b → b < H.length := fun i b h => by
    obtain ⟨o, ho, _⟩ := hg.live b (mem_of_get h); exact lt_of_get ho
  have hHs : ∀ (i b : Nat), ρ[i]? = some b → ∃ o h, H[b]? = some o ∧ Hs[i]? = some h ∧ ms[i]? = some (mvd mv i h) ∧ h ≠ .gone := fun i b hi => by
    obtain ⟨o, o', g1, g2, g3⟩ := hf.get i b hi
    obtain ⟨o1, g4, g5⟩ := hg.live b (mem_of_get hi)
    rw [g1] at g4; obtain rfl := Option.some.inj g4
    exact ⟨o, o', g1, g3, hm.get i o' g3, fun e => g5 (g2.gone.1 e)⟩
  have hold : ∀ (i b : Nat), ρ[i]? = some b → ms[i]? = some false → e2.β i = e.β b := fun i b hi hrow => by
    obtain ⟨o, h', g1, g2, g3, g4⟩ := hHs i b hi
    rw [hrow] at g3
    rw [hs.β i h' g2 (Option.some.inj g3).symm g4, foc_β hi]
  have hnew : ∀ b, H.length ≤ b → (e.after e2 ρ H.length).β b = e2.β (b - H.length) := fun b h => by
    simp only [Env.after]; rw [if_neg (by omega)]
  have holdβ : ∀ b, b < H.length → (e.after e2 ρ H.length).β b = e.β b := fun b h => by simp only [Env.after]; rw [if_pos h]
  have hnewσ : ∀ b, H.length ≤ b → (e.after e2 ρ H.length).σ b = e2.σ (b - H.length) := fun b h => by
    simp only [Env.after]; rw [if_neg (by omega)]
  have holdσ : ∀ b, b < H.length → (e.after e2 ρ H.length).σ b = backσ e e2 ρ b := fun b h => by simp only [Env.after]; rw [if_pos h]
  have hren : Ren (afR ρ ms H.length) e2 (e.after e2 ρ H.length) := by
    refine ⟨fun j b hR _ => ?_, MemLe.refl _⟩
    rcases hR with ⟨hR, hrow⟩ | ⟨_, rfl⟩
    · rw [holdβ b (hρl j b hR), hold j b hR hrow]
    · rw [hnew _ (by omega)]; congr 1; omega
  refine ⟨merge_rel hr hg hf (boOK_self hr hg) hs.rel hs.bo hs.ro hs.wle hs.own hs.frz (.inl rfl) (R := afR ρ ms H.length) ⟨rfl, rfl, holdβ, by omega, ?_, ?_, hren, ?_, ?_⟩, hren, ?_⟩
  · intro b hb'
    by_cases hbl : b < H.length
    · rw [holdβ b hbl]; exact hr.bound b hbl
    · rw [hnew b (by omega)]; exact hs.rel.bound _ (by omega)
  · intro b hb'
    by_cases hbl : b < H.length
    · omega
    · rw [hnew b (by omega)] at hb'
      have := hs.rel.dom _ hb'
      omega
  · intro b o ho hne
    by_cases hbl : b < H.length
    · by_cases hbρ : b ∈ ρ
      · obtain ⟨i, hi⟩ := List.getElem?_of_mem hbρ
        obtain ⟨o0, h, g1, g2, g3, g4⟩ := hHs i b hi
        rcases t3 i b hi with ⟨k1, k2⟩ | ⟨k1, k2⟩
        · have : H'[b]? = H1[b]? := h3 b (by omega) (fun j h' o' q1 q2 q3 => by
            have : i = j := (List.getElem?_inj (lt_of_get hi) hg.nodup).1 (hi.trans q1.symm)
            subst this; rw [k1] at q2; exact (Option.some.inj q2).symm)
          rw [this, k2] at ho; exact absurd (Option.some.inj ho).symm hne
        · have hmv : mvd mv i h = false := by rw [k1] at g3; exact (Option.some.inj g3).symm
          obtain ⟨o2, q1, _⟩ := hs.keep i h g2 hmv g4
          obtain ⟨o', q2, q3⟩ := h2 i o2 q1
          rcases q3 with ⟨c, q3, q4, q6, _⟩ | ⟨q3, _⟩
          · rw [hi] at q3; obtain rfl := Option.some.inj q3
            rw [ho] at q6; obtain rfl := Option.some.inj q6
            exact .inr ⟨i, o2, q1, q2, ⟨by rw [holdβ b hbl, hold i b hi k1], by rw [holdσ b hbl, backσ_in hg.nodup hi]⟩, .inl ⟨hi, k1⟩⟩
          · exfalso
            rcases q3 with q3 | q3
            · have := lt_of_get hi; omega
            · rw [k1] at q3; cases q3
      · refine .inl ⟨hbl, hbρ, ?_, by rw [holdσ b hbl, backσ_out hbρ]⟩
        rw [← t2 b hbρ, ← h3 b (by omega) (fun j h' o' k1 _ _ => absurd (mem_of_get k1) hbρ)]
        exact ho
    · have hlt := lt_of_get ho
      have hj : b - H.length < Hs'.length := by omega
      obtain ⟨o', k2, k3⟩ := h2 (b - H.length) _ (List.getElem?_eq_getElem hj)
      rcases k3 with ⟨c, _, _, _, k6⟩ | ⟨k3, k4⟩
      · rw [t1, show H.length + (b - H.length) = b by omega, ho] at k6
        exact absurd (Option.some.inj k6) hne
      · rw [t1, show H.length + (b - H.length) = b by omega, ho] at k4
        obtain rfl := Option.some.inj k4
        exact .inr ⟨b - H.length, _, List.getElem?_eq_getElem hj, k2, ⟨hnew b (by omega), hnewσ b (by omega)⟩, .inr ⟨k3, by omega⟩⟩
  · intro j b b' _ _ hR hR'
    rcases hR with ⟨hR, hrow⟩ | ⟨h5, rfl⟩ <;> rcases hR' with ⟨hR', hrow'⟩ | ⟨h6, rfl⟩
    · rw [hR] at hR'; exact Option.some.inj hR'
    · rcases h6 with h6 | h6
      · have := lt_of_get hR; omega
      · rw [hrow] at h6; cases h6
    · rcases h5 with h5 | h5
      · have := lt_of_get hR'; omega
      · rw [hrow'] at h5; cases h5
    · rfl
  · intro k m hk
    rcases hk with hk | hk
    · exact .inl hk
    · right
      show e.bo k = some m
      have : e2.bo = e.bo := hs.bo
      rw [← this]; exact hk

/-! ### Code -/
def CP (X : Cx) (Q : Ex → Fr → Hp → Prop) (e : Env) (H : Hp) (w : World) (k : Ex → Fr → Hp → T) : Exit → Act → World → Prop :=
  fun ex a' w' => ∃ ex' fr' e' H', ExR ex ex' ∧ sat X Q (k ex' fr' H') ∧ FrR X.N e' fr' a' ∧ Step X.G e H w e' H' w'

structure OpsOK (X : Cx) : Prop where
  reg : ∀ ops is, X.ops false ops is = true → chkOpsL X.P X.G X.N ops ops.toList is = true
  dreg : ∀ ops is, X.ops true ops is = true → chkD X.P X.G X.N ops is = true

theorem code_sound (hX : OpsOK X) : ∀ (c : IC) {code : Code}, chkC X.ops X.G c code = true → ∀ {e : Env} {H : Hp} {w : World} {fr : Fr} {a : Act} {k : Ex → Fr → Hp → T},
    Rel X.G e H w → FrR X.N e fr a → sat X Q (codeT c fr H k) → code.wp X.P (CP X Q e H w k) a w := by
  intro c
  induction c with
  | skip =>
    intro code hc e H w fr a k hr hf h
    cases code <;> simp only [chkC] at hc <;> first | cases hc; done | skip
    · exact wp_skip ⟨.normal, fr, e, H, trivial, h, hf, Step.refl hr⟩
    · exact wp_label ⟨.normal, fr, e, H, trivial, h, hf, Step.refl hr⟩
  | reg is =>
    intro code hc e H w fr a k hr hf h
    unfold chkC at hc
    split at hc <;> first | (rename_i heq; cases heq) | skip
    all_goals first | cases hc | skip
    simp only [codeT] at h
    exact region_sound (hX.reg _ _ hc) hr hf h (fun fr' a' e' H' w' hf' hst hk => ⟨.normal, fr', e', H', trivial, hk, hf', hst⟩)
  | dreg is =>
    intro code hc e H w fr a k hr hf h
    unfold chkC at hc
    split at hc <;> first | (rename_i heq; cases heq) | skip
    all_goals first | cases hc | skip
    simp only [codeT] at h
    exact drawn_sound (hX.dreg _ _ hc) hr hf h (fun fr' a' e' H' w' hf' hst hk => ⟨.normal, fr', e', H', trivial, hk, hf', hst⟩)
  | seq x y ihx ihy =>
    intro code hc e H w fr a k hr hf h
    cases code <;> simp only [chkC] at hc <;> first | cases hc; done | skip
    case scope c' =>
      simp only [Bool.and_eq_true] at hc
      cases y <;> simp only [IC.isSkip] at hc <;> first | exact absurd hc.1 (by decide) | skip
      simp only [codeT] at h
      refine wp_scope_straight (wp_mono (ihx hc.2 hr hf h) ?_)
      rintro ex a1 w1 ⟨ex', fr', e', H', hex, hk, hf', hst⟩
      cases ex <;> cases ex' <;> simp only [ExR] at hex
      · exact ⟨.normal, fr', e', H', trivial, hk, hf', hst⟩
      · rename_i i j
        exact ⟨.exit j, fr', e', H', hex, hk, hf', hst⟩
      · exact ⟨.ret, fr', e', H', trivial, hk, hf', hst⟩
    case seq x' y' =>
      simp only [Bool.and_eq_true] at hc
      simp only [codeT] at h
      refine wp_seq (wp_mono (ihx hc.1 hr hf h) ?_)
      rintro ex a1 w1 ⟨ex', fr', e', H', hex, hk, hf', hst⟩
      cases ex <;> cases ex' <;> simp only [ExR] at hex
      · refine wp_mono (ihy hc.2 hst.rel hf' hk) ?_
        rintro ex a2 w2 ⟨ex2, fr2, e2, H2, hex2, hk2, hf2, hst2⟩
        exact ⟨ex2, fr2, e2, H2, hex2, hk2, hf2, hst.trans hst2⟩
      · rename_i i j
        exact ⟨.exit j, fr', e', H', hex, hk, hf', hst⟩
      · exact ⟨.ret, fr', e', H', trivial, hk, hf', hst⟩
  | cond x ca cb iha ihb =>
    intro code hc e H w fr a k hr hf h
    cases code <;> simp only [chkC] at hc <;> first | cases hc; done | skip
    simp only [Bool.and_eq_true] at hc
    rename_i c' x' y'
    obtain ⟨⟨h1, h2⟩, h3⟩ := hc
    have hxv := chkOpd_val hr hf h1
    simp only [codeT] at h
    cases x with
    | tmp t =>
      simp only [lk_eq] at h
      split at h
      · rename_i b hb
        have hv : AV.val e (.t (.bool b)) (a.eval c') := by rw [← hb]; exact hxv
        have hcv := val_bool' hv
        have hslot := hf.slot t
        rw [hb] at hslot
        refine wp_cond_split hcv (fun hb' => ?_) (fun hb' => ?_)
        · subst hb'; exact iha h2 hr (hf.know hslot) (h.1 rfl)
        · subst hb'; exact ihb h3 hr (hf.know hslot) (h.2 rfl)
      · exact h.elim
    | con v =>
      cases v with
      | t x =>
        cases x with
        | bool b =>
          have hcv := val_bool' hxv
          refine wp_cond_split hcv (fun hb' => ?_) (fun hb' => ?_)
          · subst hb'; exact iha h2 hr hf (h.1 rfl)
          · subst hb'; exact ihb h3 hr hf (h.2 rfl)
        | _ => exact h.elim
      | _ => exact h.elim
    | fn f => exact h.elim
    | glob g x => exact h.elim
  | block id x ih =>
    intro code hc e H w fr a k hr hf h
    cases code <;> simp only [chkC] at hc <;> first | cases hc; done | skip
    simp only [Bool.and_eq_true, beq_iff_eq] at hc
    obtain ⟨rfl, hc⟩ := hc
    simp only [codeT] at h
    refine wp_block (wp_mono (ih hc hr hf h) ?_)
    rintro ex a1 w1 ⟨ex', fr', e', H', hex, hk, hf', hst⟩
    cases ex <;> cases ex' <;> simp only [ExR] at hex
    · exact ⟨.normal, fr', e', H', trivial, hk, hf', hst⟩
    · rename_i i j
      subst hex
      simp only [Exit.inBlock]
      simp only [] at hk
      cases hb : Nat.beq i id with
      | true =>
        rw [hb] at hk
        rw [if_pos (beq_eq hb)]
        exact ⟨.normal, fr', e', H', trivial, hk, hf', hst⟩
      | false =>
        rw [hb] at hk
        have : i ≠ id := by rintro rfl; rw [Nat.beq_refl] at hb; cases hb
        rw [if_neg this]
        exact ⟨.exit i, fr', e', H', rfl, hk, hf', hst⟩
    · exact ⟨.ret, fr', e', H', trivial, hk, hf', hst⟩
  | loop live keep mv x _ =>
    intro code hc e0 H0 w fr a k hr0 hf0 h
    cases code <;> simp only [chkC] at hc <;> first | cases hc; done | skip
    simp only [codeT, liveK_eq] at h
    obtain ⟨e, H, h, st1, _, _, _, _⟩ := settleK_sound hr0 h
    have hr := st1.rel
    have hf := hf0.to (st1.to hr0)
    obtain ⟨ρ, hg, h⟩ := reachK_sound (acc := []) ⟨by simp, by simp⟩ h
    obtain ⟨vs', hvs, h⟩ := rensK_sound (inward_ok ρ) h
    obtain ⟨Hs, hfo, h⟩ := focK_sound h
    obtain ⟨ms, h, hm⟩ := moves_sound h
    rw [litK_eq] at h
    have hml : ms.length = ρ.length := hm.len.trans hfo.len
    obtain ⟨H1, h, t1, t2, t3⟩ := takeRows_sound hml hg.nodup h
    obtain ⟨Q', hal, hk⟩ := h
    have hbo := boOK_self hr hg
    have hfr := foc_frame hf hvs (foc_ren e ρ e.bo) (foc_holds hbo)
    refine wp_mono (hal _ hc _ w a (foc_rel hr hg hfo hbo) hfr) ?_
    rintro ex a' w' ⟨ex', fr', e2, Hs', hex, hq, hf', hst⟩
    have h := hk ex' fr' Hs' hq
    have hok := afterName_ok (X := X) (Q := Q) ρ ms H.length hml
    obtain ⟨fr'', hff, h⟩ := renFr_sound hok h
    have hρl : ∀ b ∈ ρ, b < H1.length := fun b hb => by obtain ⟨o, ho, _⟩ := hg.live b hb; rw [t1]; exact lt_of_get ho
    obtain ⟨H', h, h1, h2, h3⟩ := afterK_sound rfl hok hml hg.nodup hρl h
    obtain ⟨hs, hren, hhold⟩ := loop_back hr hg hfo hm hst t1 t2 t3 h1 h2 h3
    exact ⟨ex', fr'', _, H', hex, h, ⟨hf'.size, hf'.defers, fun t => hff _ _ hren hhold t _ (hf'.slot t)⟩, st1.trans hs⟩
  | exit id =>
    intro code hc e H w fr a k hr hf h
    cases code <;> simp only [chkC] at hc <;> first | cases hc; done | skip
    simp only [beq_iff_eq] at hc
    subst hc
    exact wp_exit ⟨.exit _, fr, e, H, rfl, h, hf, Step.refl hr⟩
  | ret =>
    intro code hc e H w fr a k hr hf h
    cases code <;> simp only [chkC] at hc <;> first | cases hc; done | skip
    exact wp_ret ⟨.ret, fr, e, H, trivial, h, hf, Step.refl hr⟩
  | bad => intro code hc e H w fr a k hr hf h; exact h.elim
end Stk
end

section
/- The framework, part 19: functions and loops. -/
namespace Stk
open Go
variable {X : Cx} {Q : Ex → Fr → Hp → Prop} {e : Env} {H : Hp} {w : World}

/-! ### Functions -/
theorem argFr_sound : ∀ {args : List AV} {n : Nat} {acc : Fr} {k : Fr → T}, sat X Q (argFrK n acc args k) → ∃ fr, sat X Q (k fr) ∧ (∀ t, t < n → fr.at t = acc.at t) ∧ (∀ t, n + args.length ≤ t → fr.at t = acc.at t) ∧ ∀ (i : Nat) v, args[i]? = some v → fr.at (n + i) = v
  | [], n, acc, k, h => ⟨acc, h, fun _ _ => rfl, fun _ _ => rfl, fun i v hv => by simp at hv⟩
  | x :: xs, n, acc, k, h => by
    simp only [argFrK, litK_eq] at h
    obtain ⟨fr, h1, h2, h3, h4⟩ := argFr_sound h
    refine ⟨fr, h1, fun t ht => ?_, fun t ht => ?_, fun i v hv => ?_⟩
    · rw [h2 t (by omega), Fr.at_cons, if_neg (by omega)]
    · simp only [List.length_cons] at ht
      rw [h3 t (by omega), Fr.at_cons, if_neg (by omega)]
    · cases i with
      | zero => simp at hv; subst hv; rw [Nat.add_zero, h2 n (by omega), Fr.at_cons, if_pos rfl]
      | succ i => rw [show n + (i + 1) = n + 1 + i by omega]; exact h4 i v (by simpa using hv)

def chkRes (P : Program) : List IRes → List ResultVar → Bool
  | [], [] => true
  | .tmp t :: r, .tmp t' :: r' => Nat.beq t t' && chkRes P r r'
  | .cell a agg n :: r, .cell a' ty :: r' => Nat.beq a a' && tyOK P ty agg n && chkRes P r r'
  | _, _ => false

def resF (tmps : Array Value) : ResultVar → Sem Value
  | .tmp t => pure (tmps.getD t undef)
  | .cell a t => do loadVar t (← asAddr (tmps.getD a undef))

theorem res_sound {fr : Fr} {a : Act} (hr : Rel X.G e H w) (hf : FrR X.N e fr a) : ∀ {irs : List IRes} {rs : List ResultVar} {k : List AV → T}, chkRes X.P irs rs = true → sat X Q (resK H fr irs k) →
    ∃ vs cvs, sat X Q (k vs) ∧ AV.vals e vs cvs ∧ (rs.mapM (resF a.tmps)).run X.P w = .ok cvs w
  | [], [], k, _, h => ⟨[], [], h, by simp [AV.vals], rfl⟩
  | [], _ :: _, k, hc, h => by simp [chkRes] at hc
  | .tmp t :: r, [], k, hc, h => by simp [chkRes] at hc
  | .tmp t :: r, .cell _ _ :: rs, k, hc, h => by simp [chkRes] at hc
  | .cell _ _ _ :: r, [], k, hc, h => by simp [chkRes] at hc
  | .cell _ _ _ :: r, .tmp _ :: rs, k, hc, h => by simp [chkRes] at hc
  | .tmp t :: r, .tmp t' :: rs, k, hc, h => by
    simp only [chkRes, Bool.and_eq_true] at hc
    have := beq_eq hc.1
    subst this
    simp only [resK, lk_eq] at h
    obtain ⟨vs, cvs, h1, h2, h3⟩ := res_sound hr hf hc.2 h
    refine ⟨_, a.tmps.getD t undef :: cvs, h1, by simp only [AV.vals]; exact ⟨_, _, rfl, hf.slot t, h2⟩, ?_⟩
    rw [List.mapM_cons]
    simp only [resF, pure_bind, Sem.run_bind, h3, Result.andThen, Sem.run_pure]
  | .cell x agg n :: r, .cell x' ty :: rs, k, hc, h => by
    simp only [chkRes, Bool.and_eq_true] at hc
    have := beq_eq hc.1.1
    subst this
    simp only [resK, lk_eq] at h
    obtain ⟨v, cv, h, hv, ad, hx, hrun⟩ := load_sound hr (hf.slot x) h
    obtain ⟨vs, cvs, h1, h2, h3⟩ := res_sound hr hf hc.2 h
    refine ⟨_, cv :: cvs, h1, by simp only [AV.vals]; exact ⟨_, _, rfl, hv, h2⟩, ?_⟩
    rw [List.mapM_cons]
    have := hrun X.P ty hc.1.2
    simp only [resF, hx, asAddr, pure_bind, Sem.run_bind, this, h3, Result.andThen, Sem.run_pure]

def mkX (P : Program) (G : Gl) (N : Nat) : Cx := ⟨P, G, N, fun dr ops is => chkReg P G N (chkD P G) dr ops is⟩
theorem mkX_ops {P : Program} {G : Gl} {N : Nat} : OpsOK (mkX P G N) := ⟨fun _ _ h => h, fun _ _ h => h⟩

def retP (Q : AV → Hp → Prop) : Ex → Fr → Hp → Prop
  | .ret, [(_, v)], H => Q v H
  | _, _, _ => False

def chkF (P : Program) (G : Gl) (fn : Func) (ir : IF) : Bool :=
  (match fn.body with
  | some c => chkC (mkX P G fn.ntmps).ops G ir.body c
  | none => false) && chkRes P ir.results fn.results.toList

def oneOf : List Value → Value
  | [c] => c
  | cs => .tuple cs.toArray
theorem results_run {P : Program} {fn : Func} {tmps : Array Value} {cvs : List Value} {w : World} (h : (fn.results.toList.mapM (resF tmps)).run P w = .ok cvs w) :
    (results fn tmps).run P w = .ok (oneOf cvs) w := by
  have h1 : (fn.results.mapM (resF tmps)).run P w = .ok cvs.toArray w := by
    rw [Array.mapM_eq_mapM_toList]
    simp only [Sem.run_map, h]
    rfl
  have h2 : results fn tmps = (fn.results.mapM (resF tmps) >>= fun vs => pure (if h : vs.size = 1 then vs[0] else .tuple vs)) := by
    unfold results
    have : (resF tmps) = (fun
      | .tmp t => pure (tmps.getD t undef)
      | .cell a t => do loadVar t (← asAddr (tmps.getD a undef))) := by funext r; cases r <;> rfl
    rw [this]
    rfl
  rw [h2]
  simp only [Sem.run_bind, h1, Result.andThen, Sem.run_pure]
  congr 1
  match cvs with
  | [] => simp [oneOf]
  | [c] => simp [oneOf]
  | c :: d :: r => simp [oneOf]

/-- A function's body, with what is done with its result. -/
def bodyG (f : IF) (args : List AV) (H : Hp) (fin : AV → Hp → T) : T :=
  argFrK 0 [] args fun fr => codeT f.body fr H fun e fr' H' => match e with
    | .exit _ => .stuck "exit"
    | _ => resK H' fr' f.results fun vs => match vs with
      | [v] => fin v H'
      | vs => fin (.tup vs) H'

theorem acalls_ofG {P : Program} {G : Gl} {f : FuncId} {fn : Func} {ir : IF} (hf : P.funcs[f]? = some fn) (hname : (fn.name == "runtime.NumGoroutine") = false) (hc : chkF P G fn ir = true) {args : List AV} {H : Hp} {Q : Ex → Fr → Hp → Prop} {fin : AV → Hp → T}
    (hl : args.length ≤ fn.ntmps) (h : sat (mkX P G fn.ntmps) Q (bodyG ir args H fin)) : ACalls P G f args H (fun r H' => sat (mkX P G fn.ntmps) Q (fin r H')) := by
  unfold chkF at hc
  simp only [Bool.and_eq_true] at hc
  obtain ⟨hc1, hc2⟩ := hc
  split at hc1
  · rename_i code hb
    refine ⟨⟨fn, hf, hname, by rw [hb]; rfl⟩, ?_⟩
    intro e w cargs hr hv
    refine calls_of_wp hf hb ?_
    have hlen : cargs.size = args.length := by
      have : ∀ (xs : List AV) (cs : List Value), AV.vals e xs cs → cs.length = xs.length := by
        intro xs
        induction xs with
        | nil => intro cs h; simp only [AV.vals] at h; subst h; rfl
        | cons x xs ih => intro cs h; simp only [AV.vals] at h; obtain ⟨c, b, rfl, _, h2⟩ := h; simp [ih b h2]
      simpa using this _ _ hv
    unfold bodyG at h
    obtain ⟨fr, h, h1, h2, h3⟩ := argFr_sound h
    have hfr : FrR (mkX P G fn.ntmps).N e fr { tmps := cargs ++ Array.replicate (fn.ntmps - cargs.size) undef, defers := [] } := by
      refine ⟨by simp [mkX]; omega, rfl, fun t => ?_⟩
      by_cases ht : t < args.length
      · have := h3 t _ (List.getElem?_eq_getElem ht)
        rw [Nat.zero_add] at this
        rw [this]
        obtain ⟨c, h4, h5⟩ := vals_get hv (List.getElem?_eq_getElem ht)
        have : (cargs ++ Array.replicate (fn.ntmps - cargs.size) undef).getD t undef = c := by
          rw [Array.getD_eq_getD_getElem?, Array.getElem?_append_left (by omega)]
          have : cargs[t]? = some c := by simpa using h4
          rw [this]; rfl
        rw [this]; exact h5
      · rw [h2 t (by omega)]; simp [Fr.at, AV.val]
    refine wp_mono (code_sound (X := mkX P G fn.ntmps) mkX_ops ir.body hc1 hr hfr h) ?_
    rintro ex a' w' ⟨ex', fr', e', H', hex, hk, hf', hst⟩
    have done (hk : sat (mkX P G fn.ntmps) Q (resK H' fr' ir.results fun vs => match vs with
        | [v] => fin v H'
        | vs => fin (.tup vs) H')) : a'.defers = [] ∧ ∃ v, (results fn a'.tmps).run P w' = .ok v w' ∧ ∃ r c e2 H2, Ending.returned v = .returned c ∧ sat (mkX P G fn.ntmps) Q (fin r H2) ∧ AV.val e2 r c ∧ Step G e H w e2 H2 w' := by
      obtain ⟨vs, cvs, hk, hvs, hrun⟩ := res_sound hst.rel hf' hc2 hk
      refine ⟨hf'.defers, _, results_run hrun, ?_⟩
      match vs, hvs with
      | [], hvs =>
        simp only [AV.vals] at hvs
        subst hvs
        exact ⟨.tup [], _, e', H', rfl, hk, by simp only [AV.val]; exact ⟨#[], rfl, by simp [AV.vals]⟩, hst⟩
      | [v], hvs =>
        simp only [AV.vals] at hvs
        obtain ⟨c, b, rfl, h4, rfl⟩ := hvs
        exact ⟨v, c, e', H', rfl, hk, h4, hst⟩
      | u :: v :: r, hvs =>
        have hvs0 := hvs
        simp only [AV.vals] at hvs
        obtain ⟨c, b, rfl, h4, d, b', rfl, h5⟩ := hvs
        exact ⟨.tup (u :: v :: r), .tuple (c :: d :: b').toArray, e', H', rfl, hk, by simp only [AV.val]; exact ⟨_, rfl, by simpa using hvs0⟩, hst⟩
    cases ex <;> cases ex' <;> simp only [ExR] at hex
    · exact done hk
    · exact hk.elim
    · exact done hk
  · cases hc1
theorem acalls_of {P : Program} {G : Gl} {f : FuncId} {fn : Func} {ir : IF} (hf : P.funcs[f]? = some fn) (hname : (fn.name == "runtime.NumGoroutine") = false) (hc : chkF P G fn ir = true) {args : List AV} {H : Hp} {Q : AV → Hp → Prop}
    (hl : args.length ≤ fn.ntmps) (h : sat (mkX P G fn.ntmps) (retP Q) (bodyT ir args H)) : ACalls P G f args H Q :=
  acalls_ofG (fin := fun v H' => .ret .ret [(0, v)] H') (Q := retP Q) hf hname hc hl h
end Stk
end

section
/- The framework, part 20: the rule of loops. -/
namespace Stk
open Go
variable {X : Cx} {Q : Ex → Fr → Hp → Prop} {e : Env} {H : Hp} {w : World}

theorem kind_keep {G : Gl} {e e' : Env} {H H' : Hp} {w w' : World} (hr : Rel G e H w) {b : Nat} {o o' : AO} (ho : H[b]? = some o) (hrow : isRow o = false) (hne : o ≠ .gone) (hβ : e'.β b = e.β b) (hr' : Rel G e' H' w') (ho' : H'[b]? = some o') : isRow o' = false := by
  have key : ∀ m, (∀ e esz cap n ob, o'.rel e esz cap n ob → n = some m) → o' ≠ .gone → False := by
    intro m hm hg
    cases hb : e.β b with
    | no => exact hr.bound b (lt_of_get ho) hb
    | virt =>
      obtain ⟨esz, rfl | rfl⟩ := hr.virt b o ho hne hb <;> cases hrow
    | «at» blk s c n =>
      obtain ⟨ob, _, h1⟩ := hr.obj b o ho hne blk s c n hb
      obtain ⟨ob', _, h2⟩ := hr'.obj b _ ho' hg blk s c n (by rw [hβ, hb])
      have hn2 : n = some m := hm _ _ _ _ _ h2
      have hn1 : n = none := by
        cases o with
        | var v => exact h1.1
        | map es => exact h1.1
        | mapI es i => exact h1.1
        | iter m es left last => exact h1.1
        | row _ _ => cases hrow
        | dr _ _ _ => cases hrow
        | gone => exact absurd rfl hne
      rw [hn1] at hn2; cases hn2
  cases o' with
  | var v => rfl
  | map es => rfl
  | gone => rfl
  | mapI es i => rfl
  | iter m es left last => rfl
  | row es xs => exact (key xs.length (fun _ _ _ _ _ h => h.2.1) (by simp)).elim
  | dr es ms h => exact (key ms.length (fun _ _ _ _ _ h => h.2.1) (by simp)).elim

theorem stays_sound : ∀ {ms : List Bool} {ρ : List Nat} {n : Nat}, stays n ms ρ = true → ∀ (i : Nat), ms[i]? = some false → ρ[i]? = some (n + i)
  | [], ρ, n, h, i, ho => by simp at ho
  | x :: os, [], n, h, i, ho => by
    cases x with
    | true =>
      simp only [stays] at h
      cases i with
      | zero => simp at ho
      | succ i => have := stays_sound h i (by simpa using ho); simp at this
    | false => simp [stays] at h
  | x :: os, b :: r, n, h, i, ho => by
    have two : (x = true ∧ stays (n + 1) os r = true) ∨ (b = n ∧ stays (n + 1) os r = true) := by
      cases x with
      | true => exact .inl ⟨rfl, by simpa only [stays] using h⟩
      | false => simp only [stays, Bool.and_eq_true] at h; exact .inr ⟨(beq_eq h.1).symm, h.2⟩
    cases i with
    | zero =>
      simp at ho; subst ho
      rcases two with ⟨h1, _⟩ | ⟨h1, _⟩
      · cases h1
      · simp [h1]
    | succ i =>
      have h2 : stays (n + 1) os r = true := by rcases two with ⟨_, h2⟩ | ⟨_, h2⟩ <;> exact h2
      have := stays_sound h2 i (by simpa using ho)
      simp only [List.getElem?_cons_succ]
      rw [this]; congr 1; omega

theorem trim_frame {fr : Fr} {a : Act} (hf : FrR X.N e fr a) (keep : List Nat) : FrR X.N e (zipFr keep (keep.map (fr.at ·))) a := by
  refine ⟨hf.size, hf.defers, fun t => ?_⟩
  rcases zipFr_at (live := keep) (vs := keep.map (fr.at ·)) t with ⟨i, h1, h2⟩ | h1
  · rw [List.getElem?_map, h1] at h2
    have h2 : fr.at t = (zipFr keep (keep.map (fr.at ·))).at t := Option.some.inj h2
    rw [← h2]; exact hf.slot t
  · rw [h1]; simp [AV.val]

/-- What one round must come to. -/
def roundP {σ : Type} (fr : σ → Fr) (Hs : σ → Hp) (μ : σ → Nat) (x : σ) (Q : Ex → Fr → Hp → Prop) : Ex → Fr → Hp → Prop
  | .normal, fr', H' => ∃ y, fr' = fr y ∧ H' = Hs y ∧ μ y < μ x
  | ex, fr', H' => Q ex fr' H'

theorem aloop_of (hX : OpsOK X) {σ : Type} (fr : σ → Fr) (Hs : σ → Hp) (μ : σ → Nat) {live keep mv : List Nat} {c : IC} {Q : Ex → Fr → Hp → Prop}
    (round : ∀ x, sat X (roundP fr Hs μ x Q) (roundT live keep mv c (fr x) (Hs x))) (x : σ) : ALoop X mv c (fr x) (Hs x) Q := by
  intro code hc e0 w0 a0 hr0 hf0
  refine wp_loop_ghost (fun n a w => ∃ y e, μ y = n ∧ FrR X.N e (fr y) a ∧ StepL X.G mv e0 (Hs x) w0 e (Hs y) w ∧ ∀ (b : Nat) o, (Hs x)[b]? = some o → mvd mv b o = false → o ≠ .gone → ∃ o', (Hs y)[b]? = some o' ∧ mvd mv b o' = false ∧ o' ≠ .gone) (μ x) ?_ ?_
  · exact ⟨x, e0, rfl, hf0, ⟨hr0, fun _ _ _ _ _ => rfl, MemLe.refl _, rfl, WLe.refl _ _, fun _ h _ => h, fun _ _ h _ => .inl h, fun b o h1 h2 _ => ⟨o, h1, h2⟩⟩, fun b o h1 h2 h3 => ⟨o, h1, h2, h3⟩⟩
  · rintro n a w ⟨y, e, rfl, hf, hL, hK⟩
    obtain ⟨ms, hround, hms⟩ := moves_sound (round y)
    refine wp_mono (code_sound hX c hc hL.rel hf hround) ?_
    rintro ex a' w' ⟨ex', fr', e', H', hex, hk, hf', hst⟩
    -- the steps so far, one after the other
    have F : ∀ (e' : Env) (H' : Hp), Step X.G e (Hs y) w e' H' w' → (∀ (b : Nat) (o : AO), (Hs x)[b]? = some o → mvd mv b o = false → o ≠ .gone → e'.β b = e0.β b) ∧ MemLe e0.ro e'.ro ∧ e'.bo = e0.bo ∧ WLe (fun k => ¬ Owns e0 (Hs x) k) w0 w' ∧
        (∀ k, Owns e' H' k → k < w0.heap.size → Owns e0 (Hs x) k) ∧ (∀ k m, e'.ro k = some m → k < w0.heap.size → e0.ro k = some m ∨ Owns e0 (Hs x) k) ∧
        ∀ (b : Nat) (o : AO), (Hs x)[b]? = some o → mvd mv b o = false → o ≠ .gone → ∃ o', H'[b]? = some o' ∧ mvd mv b o' = false := by
      intro e' H' hst
      have hβ : ∀ (b : Nat) (o : AO), (Hs x)[b]? = some o → mvd mv b o = false → o ≠ .gone → e'.β b = e0.β b := fun b o h1 h2 h3 => by
        obtain ⟨o', g1, _, _⟩ := hK b o h1 h2 h3
        rw [hst.le.β b (lt_of_get g1), hL.β b o h1 h2 h3]
      have hro := hL.ro.trans hst.le.ro
      have hbo : e'.bo = e0.bo := hst.le.bo.trans hL.bo
      have hwle : WLe (fun k => ¬ Owns e0 (Hs x) k) w0 w' := hL.wle.trans hst.wle (fun k hk hn ho => hn (hL.own k ho hk))
      have hown : ∀ k, Owns e' H' k → k < w0.heap.size → Owns e0 (Hs x) k := fun k hk hl => hL.own k (hst.own k hk (Nat.lt_of_lt_of_le hl hL.wle.size)) hl
      have hfrz : ∀ k m, e'.ro k = some m → k < w0.heap.size → e0.ro k = some m ∨ Owns e0 (Hs x) k := fun k m hk hl => by
        rcases hst.frz k m hk (Nat.lt_of_lt_of_le hl hL.wle.size) with h | h
        · exact hL.frz k m h hl
        · exact .inr (hL.own k h hl)
      have hkeep : ∀ (b : Nat) (o : AO), (Hs x)[b]? = some o → mvd mv b o = false → o ≠ .gone → ∃ o', H'[b]? = some o' ∧ mvd mv b o' = false := fun b o h1 h2 h3 => by
        obtain ⟨o1, g1, g2, g3⟩ := hK b o h1 h2 h3
        have hlt : b < H'.length := Nat.lt_of_lt_of_le (lt_of_get g1) hst.len
        refine ⟨H'[b], by simp [hlt], ?_⟩
        have hk := kind_keep hL.rel g1 (mvd_row g2) g3 (hst.le.β b (lt_of_get g1)) hst.rel (o' := H'[b]) (by simp [hlt])
        rw [mvd_eq (o := o1) (by rw [hk, mvd_row g2])]; exact g2
      exact ⟨hβ, hro, hbo, hwle, hown, hfrz, hkeep⟩
    obtain ⟨hβ, hro, hbo, hwle, hown, hfrz, hkeep⟩ := F e' H' hst
    have out (ex' : Ex) (hq : Q ex' (zipFr keep (keep.map (fr'.at ·))) H') (hex : ExR ex ex') : ∃ ex' fr' e' H', ExR ex ex' ∧ Q ex' fr' H' ∧ FrR X.N e' fr' a' ∧ StepL X.G mv e0 (Hs x) w0 e' H' w' :=
      ⟨ex', _, e', H', hex, hq, trim_frame hf' keep, hst.rel, hβ, hro, hbo, hwle, hown, hfrz, hkeep⟩
    cases ex <;> cases ex' <;> simp only [ExR] at hex
    · simp only [liveK_eq] at hk
      obtain ⟨e2', H2', hk, st2, _, _, _, _⟩ := settleK_sound hst.rel hk
      have hf' := hf'.to (st2.to hst.rel)
      have hst := hst.trans st2
      clear hβ hro hbo hwle hown hfrz hkeep
      obtain ⟨hβ, hro, hbo, hwle, hown, hfrz, hkeep⟩ := F e2' H2' hst
      clear out
      obtain ⟨ρ, hg, hk⟩ := reachK_sound (acc := []) ⟨by simp, by simp⟩ hk
      split at hk
      · rename_i hstay
        have hstay := stays_sound hstay
        obtain ⟨vs', hvs, hk⟩ := rensK_sound (inward_ok ρ) hk
        obtain ⟨H2, hfo, hk⟩ := focK_sound hk
        obtain ⟨z, h1, h2, hlt⟩ := hk
        have hbo2 := boOK_self hst.rel hg
        have hfr := foc_frame hf' hvs (foc_ren e2' ρ e2'.bo) (foc_holds hbo2)
        have hrel := foc_rel hst.rel hg hfo hbo2
        rw [h1] at hfr
        rw [h2] at hrel hfo
        have hpos : ∀ (b : Nat) (o : AO), (Hs x)[b]? = some o → mvd mv b o = false → o ≠ .gone → ρ[b]? = some b := fun b o k1 k2 k3 => by
          obtain ⟨o1, g1, g2, g3⟩ := hK b o k1 k2 k3
          have := hstay b (by rw [hms.get b o1 g1, g2])
          rw [this]; congr 1; omega
        have hK2 : ∀ (b : Nat) (o : AO), (Hs x)[b]? = some o → mvd mv b o = false → o ≠ .gone → ∃ o', (Hs z)[b]? = some o' ∧ mvd mv b o' = false ∧ o' ≠ .gone := fun b o k1 k2 k3 => by
          have hp := hpos b o k1 k2 k3
          obtain ⟨o1, o2, g1, g2, g3⟩ := hfo.get b b hp
          obtain ⟨o1', g4, g5⟩ := hkeep b o k1 k2 k3
          rw [g1] at g4; obtain rfl := Option.some.inj g4
          obtain ⟨o1'', g6, g7⟩ := hg.live b (mem_of_get hp)
          rw [g1] at g6; obtain rfl := Option.some.inj g6
          exact ⟨o2, g3, by rw [mvd_eq g2.row]; exact g5, fun h => g7 (g2.gone.1 h)⟩
        refine ⟨_, hlt, z, _, rfl, hfr, ⟨hrel, fun b o k1 k2 k3 => ?_, hro, hbo, hwle, fun k hk hl => ?_, hfrz, fun b o k1 k2 k3 => ?_⟩, hK2⟩
        · rw [foc_β (hpos b o k1 k2 k3)]; exact hβ b o k1 k2 k3
        · obtain ⟨b', _, hl', r⟩ := foc_owns hg hfo hk
          exact hown k ⟨b', hl', r⟩ hl
        · obtain ⟨o', g1, g2, _⟩ := hK2 b o k1 k2 k3
          exact ⟨o', g1, g2⟩
      · exact hk.elim
    · rename_i i j
      simp only [liveK_eq] at hk
      exact out (.exit j) hk hex
    · simp only [liveK_eq] at hk
      exact out .ret hk trivial
end Stk
end

section
/- The framework, part C: what a function leaves, under names that hang on its form alone. -/
namespace Stk
open Go
variable {X : Cx} {Q : Ex → Fr → Hp → Prop} {e : Env} {H : Hp} {w : World}

/-- The names of the first n blocks that stay: no rows, but for those that an argument names itself. -/
def keepsOf (dir : List Nat) : Nat → Nat → Hp → List Nat
  | 0, _, _ => []
  | _, _, [] => []
  | n + 1, i, o :: os => match o with
    | .gone => keepsOf dir n (i + 1) os
    | .row _ _ => match nameIn i dir with
      | true => i :: keepsOf dir n (i + 1) os
      | false => keepsOf dir n (i + 1) os
    | .dr _ _ _ => match nameIn i dir with
      | true => i :: keepsOf dir n (i + 1) os
      | false => keepsOf dir n (i + 1) os
    | _ => i :: keepsOf dir n (i + 1) os
def restOf (keeps : List Nat) : List Nat → List Nat
  | [] => []
  | b :: r => match nameIn b keeps with
    | true => restOf keeps r
    | false => b :: restOf keeps r
/-- A name, canonically. -/
def canonN (keeps moved : List Nat) (n : Nat) (b : Nat) (no : T) (k : Nat → T) : T :=
  match nameIn b keeps with
  | true => k b
  | false => posK b no k n moved
/-- The first n blocks. -/
def canonA (f : Nat → T → (Nat → T) → T) (keeps : List Nat) : Nat → Nat → Hp → (Hp → T) → T
  | 0, _, _, k => k []
  | _, _, [], _ => .stuck "canon"
  | n + 1, i, o :: os, k => match nameIn i keeps with
    | true => renOK f o fun o' => canonA f keeps n (i + 1) os fun r => k (o' :: r)
    | false => canonA f keeps n (i + 1) os fun r => k (.gone :: r)
/-- The others. -/
def canonB (f : Nat → T → (Nat → T) → T) (H : Hp) : List Nat → (Hp → T) → T
  | [], k => k []
  | b :: r, k => nthK (fun o => renOK f o fun o' => canonB f H r fun os => k (o' :: os)) b H
def appK {α : Type} : List α → List α → (List α → T) → T
  | [], ys, k => k ys
  | x :: xs, ys, k => appK xs ys fun zs => k (x :: zs)
def memAll (bs : List Nat) : List Nat → Bool
  | [] => true
  | b :: r => match nameIn b bs with
    | true => memAll bs r
    | false => false
def canonG (keeps : List Nat) (n : Nat) (r : AV) (H0 : Hp) (k : AV → Hp → T) : T :=
  settleK true (keeps ++ r.refs) H0 fun H => reachK H (fun ρ => match memAll ρ keeps with
    | false => .stuck "canon: too much is reached"
    | true => renK (canonN keeps (restOf keeps ρ) n) r fun r' =>
      canonA (canonN keeps (restOf keeps ρ) n) keeps n 0 H fun A =>
      canonB (canonN keeps (restOf keeps ρ) n) H (restOf keeps ρ) fun B =>
      appK A B fun H' => k r' H') 100 (keeps ++ r.refs) []
def canonK (dir : List Nat) (n : Nat) (r : AV) (H : Hp) (k : AV → Hp → T) : T := canonG (keepsOf dir n 0 H) n r H k
/-- Those of the first n blocks that an argument names itself. -/
def keepsD (dir : List Nat) : Nat → Nat → Hp → List Nat
  | 0, _, _ => []
  | _, _, [] => []
  | n + 1, i, o :: os => match o with
    | .gone => keepsD dir n (i + 1) os
    | _ => match nameIn i dir with
      | true => i :: keepsD dir n (i + 1) os
      | false => keepsD dir n (i + 1) os
def bodyC (f : IF) (args : List AV) (H : Hp) : T :=
  bodyG f args H fun v H' => litK H.length fun n => canonK (AV.refss args) n v H' fun r H'' => .ret .ret [(0, r)] H''
/-- All that was there keeps its name. -/
def bodyCQ (f : IF) (args : List AV) (H : Hp) : T :=
  bodyG f args H fun v H' => litK H.length fun n => canonK (List.range n) n v H' fun r H'' => .ret .ret [(0, r)] H''

/-- Nothing keeps its name but what an argument names. -/
def bodyCD (f : IF) (args : List AV) (H : Hp) : T :=
  bodyG f args H fun v H' => litK H.length fun n => canonG (keepsD (AV.refss args) n 0 H') n v H' fun r H'' => .ret .ret [(0, r)] H''

def canR (keeps moved : List Nat) (n : Nat) (j b : Nat) : Prop := (j ∈ keeps ∧ b = j) ∨ ∃ i : Nat, moved[i]? = some j ∧ b = n + i
theorem canonN_ok (keeps moved : List Nat) (n : Nat) : FnOK X Q (canonN keeps moved n) (canR keeps moved n) := by
  intro b no k h
  unfold canonN at h
  split at h
  · rename_i hb
    exact .inr ⟨b, .inl ⟨(nameIn_iff _ _).1 hb, rfl⟩, h⟩
  · rcases posK_sound h with h | ⟨i, hi, h⟩
    · exact .inl h
    · exact .inr ⟨n + i, .inr ⟨i, hi, rfl⟩, h⟩

theorem keepsOf_mem {dir : List Nat} : ∀ {n i : Nat} {os : Hp} {b : Nat}, b ∈ keepsOf dir n i os → i ≤ b ∧ b < i + n ∧ ∃ o, os[b - i]? = some o ∧ o ≠ .gone
  | 0, i, os, b, h => by simp [keepsOf] at h
  | n + 1, i, [], b, h => by simp [keepsOf] at h
  | n + 1, i, o :: os, b, h => by
    have rcc (h : b ∈ keepsOf dir n (i + 1) os) : i ≤ b ∧ b < i + (n + 1) ∧ ∃ o', (o :: os)[b - i]? = some o' ∧ o' ≠ .gone := by
      obtain ⟨h1, h2, o', h3, h4⟩ := keepsOf_mem h
      refine ⟨by omega, by omega, o', ?_, h4⟩
      rw [show b - i = (b - (i + 1)) + 1 by omega]; simpa using h3
    have hd (hne : o ≠ .gone) (h : b ∈ i :: keepsOf dir n (i + 1) os) : i ≤ b ∧ b < i + (n + 1) ∧ ∃ o', (o :: os)[b - i]? = some o' ∧ o' ≠ .gone := by
      rcases List.mem_cons.1 h with rfl | h
      · exact ⟨Nat.le_refl _, by omega, o, by simp, hne⟩
      · exact rcc h
    cases o with
    | gone => simp only [keepsOf] at h; exact rcc h
    | row es xs =>
      simp only [keepsOf] at h
      split at h
      · exact hd (by simp) h
      · exact rcc h
    | dr es ms h' =>
      simp only [keepsOf] at h
      split at h
      · exact hd (by simp) h
      · exact rcc h
    | var v => simp only [keepsOf] at h; exact hd (by simp) h
    | map es => simp only [keepsOf] at h; exact hd (by simp) h
    | mapI es i => simp only [keepsOf] at h; exact hd (by simp) h
    | iter m es left last => simp only [keepsOf] at h; exact hd (by simp) h

theorem keepsD_mem {dir : List Nat} : ∀ {n i : Nat} {os : Hp} {b : Nat}, b ∈ keepsD dir n i os → i ≤ b ∧ b < i + n ∧ ∃ o, os[b - i]? = some o ∧ o ≠ .gone
  | 0, i, os, b, h => by simp [keepsD] at h
  | n + 1, i, [], b, h => by simp [keepsD] at h
  | n + 1, i, o :: os, b, h => by
    have rcc (h : b ∈ keepsD dir n (i + 1) os) : i ≤ b ∧ b < i + (n + 1) ∧ ∃ o', (o :: os)[b - i]? = some o' ∧ o' ≠ .gone := by
      obtain ⟨h1, h2, o', h3, h4⟩ := keepsD_mem h
      refine ⟨by omega, by omega, o', ?_, h4⟩
      rw [show b - i = (b - (i + 1)) + 1 by omega]; simpa using h3
    have hd (hne : o ≠ .gone) (h : b ∈ i :: keepsD dir n (i + 1) os) : i ≤ b ∧ b < i + (n + 1) ∧ ∃ o', (o :: os)[b - i]? = some o' ∧ o' ≠ .gone := by
      rcases List.mem_cons.1 h with rfl | h
      · exact ⟨Nat.le_refl _, by omega, o, by simp, hne⟩
      · exact rcc h
    cases o with
    | gone => simp only [keepsD] at h; exact rcc h
    | row es xs =>
      simp only [keepsD] at h
      split at h
      · exact hd (by simp) h
      · exact rcc h
    | var v =>
      simp only [keepsD] at h
      split at h
      · exact hd (by simp) h
      · exact rcc h
    | map es =>
      simp only [keepsD] at h
      split at h
      · exact hd (by simp) h
      · exact rcc h
    | mapI es i =>
      simp only [keepsD] at h
      split at h
      · exact hd (by simp) h
      · exact rcc h
    | iter m es left last =>
      simp only [keepsD] at h
      split at h
      · exact hd (by simp) h
      · exact rcc h
    | dr es ms h' =>
      simp only [keepsD] at h
      split at h
      · exact hd (by simp) h
      · exact rcc h

theorem restOf_iff {keeps : List Nat} : ∀ {ρ : List Nat} {b : Nat}, b ∈ restOf keeps ρ ↔ b ∈ ρ ∧ b ∉ keeps
  | [], b => by simp [restOf]
  | c :: r, b => by
    simp only [restOf]
    cases hc : nameIn c keeps with
    | true =>
      have hc := (nameIn_iff _ _).1 hc
      simp only [restOf_iff, List.mem_cons]
      constructor
      · rintro ⟨h1, h2⟩; exact ⟨.inr h1, h2⟩
      · rintro ⟨rfl | h1, h2⟩
        · exact absurd hc h2
        · exact ⟨h1, h2⟩
    | false =>
      have hc : c ∉ keeps := fun h => by rw [(nameIn_iff _ _).2 h] at hc; cases hc
      simp only [List.mem_cons, restOf_iff]
      constructor
      · rintro (rfl | ⟨h1, h2⟩)
        · exact ⟨.inl rfl, hc⟩
        · exact ⟨.inr h1, h2⟩
      · rintro ⟨rfl | h1, h2⟩
        · exact .inl rfl
        · exact .inr ⟨h1, h2⟩
theorem restOf_nodup {keeps : List Nat} : ∀ {ρ : List Nat}, ρ.Nodup → (restOf keeps ρ).Nodup
  | [], _ => by simp [restOf]
  | c :: r, h => by
    rw [List.nodup_cons] at h
    simp only [restOf]
    split
    · exact restOf_nodup h.2
    · rw [List.nodup_cons]; exact ⟨fun h1 => h.1 (restOf_iff.1 h1).1, restOf_nodup h.2⟩
theorem memAll_iff {bs : List Nat} : ∀ {l : List Nat}, memAll bs l = true → ∀ b ∈ l, b ∈ bs
  | [], _, b, hb => by simp at hb
  | c :: r, h, b, hb => by
    simp only [memAll] at h
    split at h
    · rename_i hc
      rcases List.mem_cons.1 hb with rfl | hb
      · exact (nameIn_iff _ _).1 hc
      · exact memAll_iff h b hb
    · cases h

theorem canonA_sound {f : Nat → T → (Nat → T) → T} {R : Nat → Nat → Prop} (hf : FnOK X Q f R) {keeps : List Nat} : ∀ {n i : Nat} {os : Hp} {k : Hp → T}, sat X Q (canonA f keeps n i os k) →
    ∃ A, sat X Q (k A) ∧ A.length = n ∧ ∀ (j : Nat) o, A[j]? = some o → (i + j ∈ keeps ∧ ∃ o1, os[j]? = some o1 ∧ RenO R o1 o) ∨ o = .gone
  | 0, i, os, k, h => ⟨[], h, rfl, fun j o hj => by simp at hj⟩
  | n + 1, i, [], k, h => h.elim
  | n + 1, i, o :: os, k, h => by
    simp only [canonA] at h
    split at h
    · rename_i hi
      obtain ⟨o', ho', h⟩ := renOK_sound hf h
      obtain ⟨A, h1, h2, h3⟩ := canonA_sound hf h
      refine ⟨_, h1, by simp [h2], fun j x hx => ?_⟩
      cases j with
      | zero => simp at hx; subst hx; exact .inl ⟨(nameIn_iff _ _).1 hi, o, rfl, ho'⟩
      | succ j =>
        have := h3 j x (by simpa using hx)
        rw [show i + (j + 1) = i + 1 + j by omega]
        exact this.imp (fun ⟨a, o1, b, c⟩ => ⟨a, o1, by simpa using b, c⟩) id
    · obtain ⟨A, h1, h2, h3⟩ := canonA_sound hf h
      refine ⟨_, h1, by simp [h2], fun j x hx => ?_⟩
      cases j with
      | zero => simp at hx; exact .inr hx.symm
      | succ j =>
        have := h3 j x (by simpa using hx)
        rw [show i + (j + 1) = i + 1 + j by omega]
        exact this.imp (fun ⟨a, o1, b, c⟩ => ⟨a, o1, by simpa using b, c⟩) id
theorem canonB_sound {f : Nat → T → (Nat → T) → T} {R : Nat → Nat → Prop} (hf : FnOK X Q f R) : ∀ {l : List Nat} {k : Hp → T}, sat X Q (canonB f H l k) →
    ∃ B, sat X Q (k B) ∧ B.length = l.length ∧ ∀ (i : Nat) o, B[i]? = some o → ∃ (b : Nat) (o1 : AO), l[i]? = some b ∧ H[b]? = some o1 ∧ RenO R o1 o
  | [], k, h => ⟨[], h, rfl, fun j o hj => by simp at hj⟩
  | b :: r, k, h => by
    simp only [canonB] at h
    obtain ⟨o, ho, h⟩ := sat_nthK h
    obtain ⟨o', ho', h⟩ := renOK_sound hf h
    obtain ⟨B, h1, h2, h3⟩ := canonB_sound hf h
    refine ⟨_, h1, by simp [h2], fun i x hx => ?_⟩
    cases i with
    | zero => simp at hx; subst hx; exact ⟨b, o, rfl, ho, ho'⟩
    | succ i => obtain ⟨c, o1, g1, g2, g3⟩ := h3 i x (by simpa using hx); exact ⟨c, o1, by simpa using g1, g2, g3⟩
theorem appK_eq {α : Type} : ∀ (xs ys : List α) (k : List α → T), appK xs ys k = k (xs ++ ys)
  | [], ys, k => rfl
  | x :: xs, ys, k => by simp only [appK, appK_eq xs ys]; rfl

def Env.can (e : Env) (n : Nat) (moved : List Nat) : Env := ⟨fun b => if b < n then e.β b else match moved[b - n]? with
  | some j => e.β j
  | none => .no, e.ro, e.bo, fun b => if b < n then e.σ b else match moved[b - n]? with
  | some j => e.σ j
  | none => fun _ => False⟩

theorem canonG_sound {keeps : List Nat} {r : AV} {H1 : Hp} {e1 : Env} {w1 : World} {k : AV → Hp → T} (hs : Step X.G e H w e1 H1 w1) (hkeep : ∀ b ∈ keeps, b < H.length) {c : Value} (hv : AV.val e1 r c) (h : sat X Q (canonG keeps H.length r H1 k)) :
    ∃ r' H2 e2, sat X Q (k r' H2) ∧ AV.val e2 r' c ∧ Step X.G e H w e2 H2 w1 := by
  unfold canonG at h
  obtain ⟨e1', H1', h, st, _, _, _, _⟩ := settleK_sound hs.rel h
  have hv := AV.val_to (st.to hs.rel) hv
  have hs := hs.trans st
  clear st
  generalize e1' = e1 at *
  generalize H1' = H1 at *
  obtain ⟨ρ, hg, h⟩ := reachK_sound (acc := []) ⟨by simp, by simp⟩ h
  split at h
  · exact h.elim
  · rename_i hmem
    have hmem := memAll_iff hmem
    have hmv : ∀ b ∈ restOf keeps ρ, live H1 b ∧ b ∉ keeps := fun b hb => ⟨hg.live b (restOf_iff.1 hb).1, (restOf_iff.1 hb).2⟩
    have hnd : (restOf keeps ρ).Nodup := restOf_nodup hg.nodup
    generalize restOf keeps ρ = moved at h hmv hnd
    have hf := canonN_ok (X := X) (Q := Q) keeps moved H.length
    obtain ⟨r', hr', h⟩ := renK_sound hf h
    obtain ⟨A, h, hA, gA⟩ := canonA_sound hf h
    obtain ⟨B, h, hB, gB⟩ := canonB_sound hf h
    rw [appK_eq] at h
    have hle := hs.len
    have e2lt : ∀ b, b < H.length → (e1.can H.length moved).β b = e1.β b := fun b hb => by simp only [Env.can]; rw [if_pos hb]
    have e2ge : ∀ i j : Nat, moved[i]? = some j → (e1.can H.length moved).β (H.length + i) = e1.β j := fun i j hj => by
      simp only [Env.can]; rw [if_neg (by omega), Nat.add_sub_cancel_left, hj]
    have s2lt : ∀ b, b < H.length → (e1.can H.length moved).σ b = e1.σ b := fun b hb => by simp only [Env.can]; rw [if_pos hb]
    have s2ge : ∀ i j : Nat, moved[i]? = some j → (e1.can H.length moved).σ (H.length + i) = e1.σ j := fun i j hj => by
      simp only [Env.can]; rw [if_neg (by omega), Nat.add_sub_cancel_left, hj]
    have hren : Ren (canR keeps moved H.length) e1 (e1.can H.length moved) := by
      refine ⟨fun j b hR _ => ?_, MemLe.refl _⟩
      rcases hR with ⟨hj, rfl⟩ | ⟨i, hi, rfl⟩
      · exact e2lt _ (hkeep _ hj)
      · exact e2ge i j hi
    have hholds : Holds e1 (e1.can H.length moved) := fun k m h => h
    have get : ∀ b o, (A ++ B)[b]? = some o → o ≠ .gone → ∃ (j : Nat) (o1 : AO), H1[j]? = some o1 ∧ RenO (canR keeps moved H.length) o1 o ∧ ((e1.can H.length moved).β b = e1.β j ∧ (e1.can H.length moved).σ b = e1.σ j) ∧ canR keeps moved H.length j b := by
      intro b o ho hne
      by_cases hb : b < H.length
      · rw [List.getElem?_append_left (by omega)] at ho
        rcases gA b o ho with ⟨h1, o1, h2, h3⟩ | h1
        · rw [Nat.zero_add] at h1
          exact ⟨b, o1, h2, h3, ⟨e2lt b hb, s2lt b hb⟩, .inl ⟨h1, rfl⟩⟩
        · exact absurd h1 hne
      · rw [List.getElem?_append_right (by omega), hA] at ho
        obtain ⟨j, o1, h1, h2, h3⟩ := gB _ o ho
        have := e2ge _ j h1
        have this2 := s2ge _ j h1
        rw [show H.length + (b - H.length) = b by omega] at this this2
        exact ⟨j, o1, h2, h3, ⟨this, this2⟩, .inr ⟨_, h1, by omega⟩⟩
    have fn : ∀ j b b', canR keeps moved H.length j b → canR keeps moved H.length j b' → b = b' := by
      intro j b b' h1 h2
      rcases h1 with ⟨h1, rfl⟩ | ⟨i, h1, rfl⟩ <;> rcases h2 with ⟨h2, rfl⟩ | ⟨i', h2, rfl⟩
      · rfl
      · exact absurd h1 (hmv _ (mem_of_get h2)).2
      · exact absurd h2 (hmv _ (mem_of_get h1)).2
      · have : i = i' := (List.getElem?_inj (lt_of_get h1) hnd).1 (h1.trans h2.symm)
        rw [this]
    have hrel1 := hs.rel
    refine ⟨r', A ++ B, e1.can H.length moved, h, (hr' _ _ hren (.inl hholds)).2 _ hv, ⟨?_, ?_, ?_, ?_, ?_, ?_, ?_, hrel1.mem, hrel1.gl⟩, ⟨fun b hb => by rw [e2lt b hb]; exact hs.le.β b hb, hs.le.ro, hs.le.bo⟩, by simp [hA], hs.wle, ?_, hs.frz⟩
    · intro b o ho hne blk esz cap n hβ
      obtain ⟨j, o1, h1, h2, h3, _⟩ := get b o ho hne
      rw [h3.1] at hβ
      obtain ⟨ob, h4, h5⟩ := hrel1.obj j o1 h1 (fun h => hne (h2.gone.2 h)) blk esz cap n hβ
      exact ⟨ob, h4, h2.rel hren (.inl hholds) h5⟩
    · intro b o ho hne hβ
      obtain ⟨j, o1, h1, h2, h3, _⟩ := get b o ho hne
      rw [h3.1] at hβ
      exact h2.nil (hrel1.virt j o1 h1 (fun h => hne (h2.gone.2 h)) hβ)
    · intro b o ho hne
      obtain ⟨j, o1, h1, h2, h3, _⟩ := get b o ho hne
      rw [h3.1, h3.2]
      exact h2.deep hren (.inl hholds) (hrel1.deep j o1 h1 (fun h => hne (h2.gone.2 h)))
    · intro b hb
      rw [List.length_append, hA, hB] at hb
      by_cases hbl : b < H.length
      · rw [e2lt b hbl]; exact hrel1.bound b (by omega)
      · have hi : moved[b - H.length]? = some (moved[b - H.length]'(by omega)) := List.getElem?_eq_getElem _
        have := e2ge _ _ hi
        rw [show H.length + (b - H.length) = b by omega] at this
        rw [this]
        obtain ⟨o, ho, _⟩ := (hmv _ (mem_of_get hi)).1
        exact hrel1.bound _ (lt_of_get ho)
    · intro b hb
      rw [List.length_append, hA, hB]
      by_cases hbl : b < H.length
      · omega
      · simp only [Env.can] at hb
        rw [if_neg hbl] at hb
        cases hm : moved[b - H.length]? with
        | none => rw [hm] at hb; simp at hb
        | some j => have := lt_of_get hm; omega
    · rintro b b' ⟨o, ho, hne⟩ ⟨o', ho', hne'⟩ q hq hq'
      obtain ⟨j, o1, h1, h2, h3, h4⟩ := get b o ho hne
      obtain ⟨j', o1', h1', h2', h3', h4'⟩ := get b' o' ho' hne'
      have := hrel1.injO j j' ⟨o1, h1, fun h => hne (h2.gone.2 h)⟩ ⟨o1', h1', fun h => hne' (h2'.gone.2 h)⟩ q (by simpa only [Own1, h3.1, h3.2] using hq) (by simpa only [Own1, h3'.1, h3'.2] using hq')
      subst this
      exact fn j b b' h4 h4'
    · rintro b ⟨o, ho, hne⟩ q hq
      obtain ⟨j, o1, h1, h2, h3, _⟩ := get b o ho hne
      exact hrel1.sepO j ⟨o1, h1, fun h => hne (h2.gone.2 h)⟩ q (by simpa only [Own1, h3.1, h3.2] using hq)
    · rintro q ⟨b, ⟨o, ho, hne⟩, hq⟩ hk
      obtain ⟨j, o1, h1, h2, h3, _⟩ := get b o ho hne
      exact hs.own q ⟨j, ⟨o1, h1, fun h => hne (h2.gone.2 h)⟩, by simpa only [Own1, h3.1, h3.2] using hq⟩ hk

theorem canon_sound {dir : List Nat} {r : AV} {H1 : Hp} {e1 : Env} {w1 : World} {k : AV → Hp → T} (hs : Step X.G e H w e1 H1 w1) {c : Value} (hv : AV.val e1 r c) (h : sat X Q (canonK dir H.length r H1 k)) :
    ∃ r' H2 e2, sat X Q (k r' H2) ∧ AV.val e2 r' c ∧ Step X.G e H w e2 H2 w1 :=
  canonG_sound hs (fun b hb => by
    obtain ⟨_, h2, _⟩ := keepsOf_mem hb
    omega) hv h

theorem acalls_ofC {P : Program} {G : Gl} {f : FuncId} {fn : Func} {ir : IF} (hf : P.funcs[f]? = some fn) (hname : (fn.name == "runtime.NumGoroutine") = false) (hc : chkF P G fn ir = true) {args : List AV} {H : Hp} {Q : AV → Hp → Prop}
    (hl : args.length ≤ fn.ntmps) (h : sat (mkX P G fn.ntmps) (retP Q) (bodyC ir args H)) : ACalls P G f args H Q := by
  have h0 := acalls_ofG hf hname hc hl h
  refine ⟨h0.1, fun e w cargs hr hv => Calls.mono (h0.2 e w cargs hr hv) ?_⟩
  rintro en w' ⟨r, c, e', H', rfl, hq, hrv, hst⟩
  rw [litK_eq] at hq
  obtain ⟨r', H2, e2, h1, h2, h3⟩ := canon_sound hst hrv hq
  exact ⟨r', c, e2, H2, rfl, h1, h2, h3⟩
theorem acalls_ofQ {P : Program} {G : Gl} {f : FuncId} {fn : Func} {ir : IF} (hf : P.funcs[f]? = some fn) (hname : (fn.name == "runtime.NumGoroutine") = false) (hc : chkF P G fn ir = true) {args : List AV} {H : Hp} {Q : AV → Hp → Prop}
    (hl : args.length ≤ fn.ntmps) (h : sat (mkX P G fn.ntmps) (retP Q) (bodyCQ ir args H)) : ACalls P G f args H Q := by
  have h0 := acalls_ofG hf hname hc hl h
  refine ⟨h0.1, fun e w cargs hr hv => Calls.mono (h0.2 e w cargs hr hv) ?_⟩
  rintro en w' ⟨r, c, e', H', rfl, hq, hrv, hst⟩
  rw [litK_eq] at hq
  obtain ⟨r', H2, e2, h1, h2, h3⟩ := canon_sound hst hrv hq
  exact ⟨r', c, e2, H2, rfl, h1, h2, h3⟩
theorem acalls_ofD {P : Program} {G : Gl} {f : FuncId} {fn : Func} {ir : IF} (hf : P.funcs[f]? = some fn) (hname : (fn.name == "runtime.NumGoroutine") = false) (hc : chkF P G fn ir = true) {args : List AV} {H : Hp} {Q : AV → Hp → Prop}
    (hl : args.length ≤ fn.ntmps) (h : sat (mkX P G fn.ntmps) (retP Q) (bodyCD ir args H)) : ACalls P G f args H Q := by
  have h0 := acalls_ofG hf hname hc hl h
  refine ⟨h0.1, fun e w cargs hr hv => Calls.mono (h0.2 e w cargs hr hv) ?_⟩
  rintro en w' ⟨r, c, e', H', rfl, hq, hrv, hst⟩
  rw [litK_eq] at hq
  obtain ⟨r', H2, e2, h1, h2, h3⟩ := canonG_sound hst (fun b hb => by
    obtain ⟨_, h2, _⟩ := keepsD_mem hb
    omega) hrv hq
  exact ⟨r', c, e2, H2, rfl, h1, h2, h3⟩
end Stk
end

section
/- The framework, part R: the evaluator once more, by recursors: what is still to be done has one form, for the elaborator and for the kernel. -/
namespace Stk
open Go

noncomputable def opsR (l : List IOp) : Fr → Hp → (Fr → Hp → T) → T :=
  List.rec (motive := fun _ => Fr → Hp → (Fr → Hp → T) → T) (fun fr H k => k fr H) (fun o _ ih fr H k => iopT o fr H fun fr' H' => ih fr' H' k) l
theorem opsR_eq : ∀ (l : List IOp) (fr : Fr) (H : Hp) (k : Fr → Hp → T), opsR l fr H k = opsT l fr H k
  | [], _, _, _ => rfl
  | o :: os, fr, H, k => by
    show iopT o fr H (fun fr' H' => opsR os fr' H' k) = iopT o fr H fun fr' H' => opsT os fr' H' k
    simp only [opsR_eq os]

noncomputable def readsR (l : List IOp) : Nat → List Nat → List Nat → Fr → Hp → (List Nat → List Nat → Fr → T) → T :=
  List.rec (motive := fun _ => Nat → List Nat → List Nat → Fr → Hp → (List Nat → List Nat → Fr → T) → T) (fun _ M P fr _ k => k M P fr)
    (fun o _ ih i M P fr H k => match o.eff, nameIn i M, subN o.pre M with
      | false, false, true => iopT o fr H fun fr' _ => litK i fun i => ih (i + 1) (i :: M) (i :: P) fr' H k
      | _, _, _ => ih (i + 1) M P fr H k) l
theorem readsR_eq : ∀ (l : List IOp) (i : Nat) (M P : List Nat) (fr : Fr) (H : Hp) (k : List Nat → List Nat → Fr → T), readsR l i M P fr H k = readsT i l M P fr H k
  | [], _, _, _, _, _, _ => rfl
  | o :: os, i, M, P, fr, H, k => by
    have e : readsR (o :: os) i M P fr H k = match o.eff, nameIn i M, subN o.pre M with
      | false, false, true => iopT o fr H fun fr' _ => litK i fun i => readsR os (i + 1) (i :: M) (i :: P) fr' H k
      | _, _, _ => readsR os (i + 1) M P fr H k := rfl
    rw [e]
    simp only [readsT, readsR_eq os]
    rfl

noncomputable def againsR (P : List Nat) (l : List IOp) : Nat → Fr → Hp → T → T :=
  List.rec (motive := fun _ => Nat → Fr → Hp → T → T) (fun _ _ _ next => next)
    (fun o _ ih i fr H next => match nameIn i P with
      | true => againT o fr H (ih (i + 1) fr H next)
      | false => ih (i + 1) fr H next) l
theorem againsR_eq (P : List Nat) : ∀ (l : List IOp) (i : Nat) (fr : Fr) (H : Hp) (next : T), againsR P l i fr H next = againsT P i l fr H next
  | [], _, _, _, _ => rfl
  | o :: os, i, fr, H, next => by
    have e : againsR P (o :: os) i fr H next = match nameIn i P with
      | true => againT o fr H (againsR P os (i + 1) fr H next)
      | false => againsR P os (i + 1) fr H next := rfl
    rw [e]
    simp only [againsT, againsR_eq P os]
    rfl

noncomputable def candsR (f : Nat → IOp → T) (M : List Nat) (l : List IOp) : Nat → Option T → T :=
  List.rec (motive := fun _ => Nat → Option T → T) (fun _ acc => match acc with
      | none => .stuck "no effect is ready"
      | some t => t)
    (fun o _ ih i acc => match o.eff, nameIn i M, subN o.pre M with
      | true, false, true => litK i fun i => match acc with
        | none => ih (i + 1) (some (f i o))
        | some t => ih (i + 1) (some (.any t (f i o)))
      | _, _, _ => ih (i + 1) acc) l
theorem candsR_eq (f : Nat → IOp → T) (M : List Nat) : ∀ (l : List IOp) (i : Nat) (acc : Option T), candsR f M l i acc = candsT f M i l acc
  | [], _, none => rfl
  | [], _, some _ => rfl
  | o :: os, i, acc => by
    have e : candsR f M (o :: os) i acc = match o.eff, nameIn i M, subN o.pre M with
      | true, false, true => litK i fun i => match acc with
        | none => candsR f M os (i + 1) (some (f i o))
        | some t => candsR f M os (i + 1) (some (.any t (f i o)))
      | _, _, _ => candsR f M os (i + 1) acc := rfl
    rw [e]
    simp only [candsT, candsR_eq f M os]
    cases acc <;> rfl

noncomputable def pickR (ds : List IOp) (l : List IOp) : List Nat → List Nat → Fr → Hp → (Fr → Hp → T) → T :=
  List.rec (motive := fun _ => List Nat → List Nat → Fr → Hp → (Fr → Hp → T) → T)
    (fun M P fr H k => match allN 0 ds M with
      | true => k fr H
      | false => candsR (fun i o => iopT o fr H fun fr' H' => againsR (dropN o.pre P) ds 0 fr' H' (readsR ds 0 (i :: M) (dropN o.pre P) fr' H' fun _ _ _ => .stuck "fuel")) M ds 0 none)
    (fun _ _ ih M P fr H k => match allN 0 ds M with
      | true => k fr H
      | false => candsR (fun i o => iopT o fr H fun fr' H' => againsR (dropN o.pre P) ds 0 fr' H' (readsR ds 0 (i :: M) (dropN o.pre P) fr' H' fun M' P' fr'' => ih M' P' fr'' H' k)) M ds 0 none) l
theorem pickR_eq (ds : List IOp) : ∀ (l : List IOp) (M P : List Nat) (fr : Fr) (H : Hp) (k : Fr → Hp → T), pickR ds l M P fr H k = pickT (l.length + 1) ds M P fr H k
  | [], M, P, fr, H, k => by
    have e : pickR ds [] M P fr H k = match allN 0 ds M with
      | true => k fr H
      | false => candsR (fun i o => iopT o fr H fun fr' H' => againsR (dropN o.pre P) ds 0 fr' H' (readsR ds 0 (i :: M) (dropN o.pre P) fr' H' fun _ _ _ => .stuck "fuel")) M ds 0 none := rfl
    rw [e]
    simp only [List.length_nil, pickT, candsR_eq, againsR_eq, readsR_eq]
    rfl
  | o :: os, M, P, fr, H, k => by
    have e : pickR ds (o :: os) M P fr H k = match allN 0 ds M with
      | true => k fr H
      | false => candsR (fun i o => iopT o fr H fun fr' H' => againsR (dropN o.pre P) ds 0 fr' H' (readsR ds 0 (i :: M) (dropN o.pre P) fr' H' fun M' P' fr'' => pickR ds os M' P' fr'' H' k)) M ds 0 none := rfl
    rw [e]
    simp only [List.length_cons, pickR_eq ds os, candsR_eq, againsR_eq, readsR_eq]
    conv => rhs; unfold pickT
    rfl
noncomputable def dregR (ds : List IOp) (fr : Fr) (H : Hp) (k : Fr → Hp → T) : T :=
  readsR ds 0 [] [] fr H fun M P fr' => pickR ds ds M P fr' H k
theorem dregR_eq (ds : List IOp) (fr : Fr) (H : Hp) (k : Fr → Hp → T) : dregR ds fr H k = dregT ds fr H k := by
  simp only [dregR, dregT, readsR_eq, pickR_eq]

noncomputable def codeR (c : IC) : Fr → Hp → (Ex → Fr → Hp → T) → T :=
  IC.rec (motive := fun _ => Fr → Hp → (Ex → Fr → Hp → T) → T)
    (fun fr H k => k .normal fr H)
    (fun ops fr H k => opsR ops fr H fun fr' H' => k .normal fr' H')
    (fun ops fr H k => dregR ops fr H fun fr' H' => k .normal fr' H')
    (fun _ _ iha ihb fr H k => iha fr H fun e fr' H' => match e with
      | .normal => ihb fr' H' k
      | e => k e fr' H')
    (fun c _ _ iha ihb fr H k => match c with
      | .tmp t => lk t (fun v => match v with
        | .t (.bool v) => .br v (iha ((t, .t (.bool true)) :: fr) H k) (ihb ((t, .t (.bool false)) :: fr) H k)
        | _ => .stuck "cond") fr
      | .con (.t (.bool v)) => .br v (iha fr H k) (ihb fr H k)
      | _ => .stuck "cond")
    (fun id _ iha fr H k => iha fr H fun e fr' H' => match e with
      | .exit j => match Nat.beq j id with
        | true => k .normal fr' H'
        | false => k (.exit j) fr' H'
      | e => k e fr' H')
    (fun live keep mv a _ fr H0 k => liveK fr live fun vs => settleK false (AV.refss vs) H0 fun H => reachK H (fun ρ =>
      rensK (inward ρ) vs fun vs' => focK H ρ ρ fun Hs => movesK mv 0 Hs fun ms => litK H.length fun n => takeRowsK ρ ms H fun H1 =>
        .loop live keep mv a (zipFr live vs') Hs fun e fr' Hs' => renFrK (afterName ρ ms n) fr' fun fr'' => afterK ρ ms n ρ ms Hs' H1 fun H' => k e fr'' H') 60 (AV.refss vs) [])
    (fun id fr H k => k (.exit id) fr H)
    (fun fr H k => k .ret fr H)
    (fun _ _ _ => .stuck "bad") c
theorem codeR_eq : ∀ (c : IC) (fr : Fr) (H : Hp) (k : Ex → Fr → Hp → T), codeR c fr H k = codeT c fr H k
  | .skip, _, _, _ => rfl
  | .reg ops, fr, H, k => by
    show opsR ops fr H _ = _
    rw [opsR_eq]; rfl
  | .dreg ops, fr, H, k => by
    show dregR ops fr H _ = _
    rw [dregR_eq]; rfl
  | .seq a b, fr, H, k => by
    have e : codeR (.seq a b) fr H k = codeR a fr H fun e fr' H' => match e with
      | .normal => codeR b fr' H' k
      | e => k e fr' H' := rfl
    rw [e]
    simp only [codeT, codeR_eq a, codeR_eq b]
    rfl
  | .cond c a b, fr, H, k => by
    have e : codeR (.cond c a b) fr H k = match c with
      | .tmp t => lk t (fun v => match v with
        | .t (.bool v) => .br v (codeR a ((t, .t (.bool true)) :: fr) H k) (codeR b ((t, .t (.bool false)) :: fr) H k)
        | _ => .stuck "cond") fr
      | .con (.t (.bool v)) => .br v (codeR a fr H k) (codeR b fr H k)
      | _ => .stuck "cond" := rfl
    rw [e]
    simp only [codeT, codeR_eq a, codeR_eq b]
    rfl
  | .block id a, fr, H, k => by
    have e : codeR (.block id a) fr H k = codeR a fr H fun e fr' H' => match e with
      | .exit j => match Nat.beq j id with
        | true => k .normal fr' H'
        | false => k (.exit j) fr' H'
      | e => k e fr' H' := rfl
    rw [e]
    simp only [codeT, codeR_eq a]
    rfl
  | .loop live keep mv a, fr, H, k => rfl
  | .exit id, fr, H, k => rfl
  | .ret, fr, H, k => rfl
  | .bad, fr, H, k => rfl

noncomputable def roundR (live keep mv : List Nat) (a : IC) (fr : Fr) (H : Hp) : T :=
  movesK mv 0 H fun ms => codeR a fr H fun e fr' H' => match e with
    | .normal => liveK fr' live fun vs => settleK false (AV.refss vs) H' fun H' => reachK H' (fun ρ => match stays 0 ms ρ with
      | true => rensK (inward ρ) vs fun vs' => focK H' ρ ρ fun Hs => .ret .normal (zipFr live vs') Hs
      | false => .stuck "loop: a block moved") 60 (AV.refss vs) []
    | e => liveK fr' keep fun vs => .ret e (zipFr keep vs) H'
theorem roundR_eq (live keep mv : List Nat) (a : IC) (fr : Fr) (H : Hp) : roundR live keep mv a fr H = roundT live keep mv a fr H := by
  simp only [roundR, roundT, codeR_eq]
  rfl
noncomputable def bodyR (f : IF) (args : List AV) (H : Hp) : T :=
  argFrK 0 [] args fun fr => codeR f.body fr H fun e fr' H' => match e with
    | .exit _ => .stuck "exit"
    | _ => resK H' fr' f.results fun vs => match vs with
      | [v] => litK H.length fun n => canonK (AV.refss args) n v H' fun r H'' => .ret .ret [(0, r)] H''
      | vs => litK H.length fun n => canonK (AV.refss args) n (.tup vs) H' fun r H'' => .ret .ret [(0, r)] H''
noncomputable def bodyQ (f : IF) (args : List AV) (H : Hp) : T :=
  argFrK 0 [] args fun fr => codeR f.body fr H fun e fr' H' => match e with
    | .exit _ => .stuck "exit"
    | _ => resK H' fr' f.results fun vs => match vs with
      | [v] => litK H.length fun n => canonK (List.range n) n v H' fun r H'' => .ret .ret [(0, r)] H''
      | vs => litK H.length fun n => canonK (List.range n) n (.tup vs) H' fun r H'' => .ret .ret [(0, r)] H''
noncomputable def bodyD (f : IF) (args : List AV) (H : Hp) : T :=
  argFrK 0 [] args fun fr => codeR f.body fr H fun e fr' H' => match e with
    | .exit _ => .stuck "exit"
    | _ => resK H' fr' f.results fun vs => match vs with
      | [v] => litK H.length fun n => canonG (keepsD (AV.refss args) n 0 H') n v H' fun r H'' => .ret .ret [(0, r)] H''
      | vs => litK H.length fun n => canonG (keepsD (AV.refss args) n 0 H') n (.tup vs) H' fun r H'' => .ret .ret [(0, r)] H''
theorem bodyD_eq (f : IF) (args : List AV) (H : Hp) : bodyD f args H = bodyCD f args H := by
  simp only [bodyD, bodyCD, bodyG, codeR_eq]
  all_goals rfl
theorem bodyQ_eq (f : IF) (args : List AV) (H : Hp) : bodyQ f args H = bodyCQ f args H := by
  simp only [bodyQ, bodyCQ, bodyG, codeR_eq]
  all_goals rfl
theorem bodyR_eq (f : IF) (args : List AV) (H : Hp) : bodyR f args H = bodyC f args H := by
  simp only [bodyR, bodyC, bodyG, codeR_eq]
  all_goals rfl
end Stk
end

section
/- The framework, part 21: steps of a proof by symbolic evaluation. -/
namespace Stk
open Go
section
variable {X : Cx} {Q : Ex → Fr → Hp → Prop}
theorem sat_ret {e : Ex} {fr : Fr} {H : Hp} (h : Q e fr H) : sat X Q (.ret e fr H) := h
theorem sat_brT {b : Bool} {t e : T} (hb : b = true) (h : sat X Q t) : sat X Q (.br b t e) := And.intro (fun _ => h) (fun h' => absurd h' (by rw [hb]; decide))
theorem sat_brF {b : Bool} {t e : T} (hb : b = false) (h : sat X Q e) : sat X Q (.br b t e) := And.intro (fun h' => absurd h' (by rw [hb]; decide)) (fun _ => h)
theorem sT {b : Bool} {t e : T} (hb : b = true) (h : sat X Q t) : sat X Q (.br b t e) := sat_brT hb h
theorem sF {b : Bool} {t e : T} (hb : b = false) (h : sat X Q e) : sat X Q (.br b t e) := sat_brF hb h
theorem sat_br {b : Bool} {t e : T} (h1 : b = true → sat X Q t) (h2 : b = false → sat X Q e) : sat X Q (.br b t e) := ⟨h1, h2⟩
theorem sat_any {t e : T} (h1 : sat X Q t) (h2 : sat X Q e) : sat X Q (.any t e) := ⟨h1, h2⟩
theorem sat_asrt {b : Bool} {t : T} (hb : b = true) (h : sat X Q t) : sat X Q (.asrt b t) := ⟨hb, h⟩
theorem sat_eqv {v v' : AV} {t : T} (hv : v = v') (h : sat X Q t) : sat X Q (.eqv v v' t) := ⟨hv, h⟩
theorem sE {v v' : AV} {t : T} (hv : v = v') (h : sat X Q t) : sat X Q (.eqv v v' t) := sat_eqv hv h
theorem sat_idx {xs : List Tr} {i : Int} {k : Tr → T} (x : Tr) (h0 : 0 ≤ i) (hx : xs[i.toNat]? = some x) (h : sat X Q (k x)) : sat X Q (.idx xs i k) := ⟨x, h0, hx, h⟩
theorem sat_rng {k : IntKind} {n : Int} {f : Int → T} (hn : k.wrap n = n) (h : sat X Q (f n)) : sat X Q (.rng k n f) := by show sat X Q (f (k.wrap n)); rw [hn]; exact h
theorem sat_rngw {k : IntKind} {n : Int} {f : Int → T} (h : sat X Q (f (k.wrap n))) : sat X Q (.rng k n f) := h
theorem sat_call {f : FuncId} {args : List AV} {H : Hp} {k : AV → Hp → T} {Q' : AV → Hp → Prop} (h : ACalls X.P X.G f args H Q') (hk : ∀ r H', Q' r H' → sat X Q (k r H')) : sat X Q (.call f args H k) := ⟨Q', h, hk⟩
theorem sat_loop {live keep mv : List Nat} {c : IC} {fr : Fr} {H : Hp} {k : Ex → Fr → Hp → T} {Q' : Ex → Fr → Hp → Prop} (h : ALoop X mv c fr H Q') (hk : ∀ e fr' H', Q' e fr' H' → sat X Q (k e fr' H')) : sat X Q (.loop live keep mv c fr H k) := ⟨Q', h, hk⟩
theorem sat_loopOf (hX : OpsOK X) {σ : Type} (fr : σ → Fr) (Hs : σ → Hp) (μ : σ → Nat) (Q' : Ex → Fr → Hp → Prop) {live keep mv : List Nat} {c : IC} {k : Ex → Fr → Hp → T} (x0 : σ)
    (round : ∀ x, sat X (roundP fr Hs μ x Q') (roundR live keep mv c (fr x) (Hs x))) (hk : ∀ e fr' H', Q' e fr' H' → sat X Q (k e fr' H')) : sat X Q (.loop live keep mv c (fr x0) (Hs x0) k) :=
  ⟨Q', aloop_of hX fr Hs μ (fun x => by have := round x; rw [roundR_eq] at this; exact this) x0, hk⟩
end
theorem wrap64 {n : Int} (h1 : -9223372036854775808 ≤ n) (h2 : n ≤ 9223372036854775807) : IntKind.wrap .i64 n = n := by
  rw [IntKind.wrap_i64]; omega
end Stk
end
