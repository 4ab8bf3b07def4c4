/- Several texts of this claim, joined into one file. -/
import Derived.Test.YthkbahbbdacgeaaDoorZj4
import Derived.ChangeKeysEq
import Derived.MapKept
section
/- The framework, part S: elements of rows that hold memory of their own come out and go in. -/
set_option linter.unusedVariables false
namespace Stk
open Go
variable {X : Cx} {Q : Ex → Fr → Hp → Prop} {e : Env} {H : Hp} {w : World}

theorem goneK_sound : ∀ {l : List Nat} {H : Hp} {k : Hp → T}, sat X Q (goneK l H k) → ∃ H', sat X Q (k H') ∧ H'.length = H.length ∧ (∀ b, b ∉ l → H'[b]? = H[b]?) ∧ ∀ b ∈ l, H'[b]? = some .gone
  | [], H, k, h => ⟨H, h, rfl, fun _ _ => rfl, fun b hb => by cases hb⟩
  | b :: r, H, k, h => by
    simp only [goneK] at h
    obtain ⟨hlt, h⟩ := sat_setK h
    obtain ⟨H', h1, h2, h3, h4⟩ := goneK_sound h
    refine ⟨H', h1, by simpa using h2, fun c hc => ?_, fun c hc => ?_⟩
    · simp only [List.mem_cons, not_or] at hc
      rw [h3 c hc.2, List.getElem?_set, if_neg (fun e => hc.1 e.symm)]
    · by_cases hr : c ∈ r
      · exact h4 c hr
      · rcases List.mem_cons.1 hc with rfl | hc
        · rw [h3 c hr]; simp [hlt]
        · exact absurd hc hr
theorem flatsK_sound {k : T} : ∀ {l : List Nat}, sat X Q (flatsK H k l) → sat X Q k ∧ ∀ b ∈ l, ∀ o, H[b]? = some o → o.own = true
  | [], h => ⟨h, fun b hb => by cases hb⟩
  | b :: r, h => by
    simp only [flatsK] at h
    obtain ⟨o, ho, h⟩ := sat_nthK h
    split at h
    · rename_i hown
      obtain ⟨h1, h2⟩ := flatsK_sound h
      refine ⟨h1, fun c hc o' ho' => ?_⟩
      rcases List.mem_cons.1 hc with rfl | hc
      · rw [ho] at ho'; obtain rfl := Option.some.inj ho'; exact hown
      · exact h2 c hc o' ho'
    · exact h.elim
theorem AO.own_flat {o : AO} (h : o.own = true) : o.flat = true ∧ o.free = true ∧ o.isDr = false := by
  cases o <;> simp_all [AO.own, AO.flat, AO.free, AO.isDr]
theorem RenO.flat {R : Nat → Nat → Prop} {o o' : AO} (h : RenO R o o') (ho : o.flat = true) : o'.flat = true := by
  cases o with
  | var v => obtain ⟨v', rfl, _⟩ := h; rfl
  | row es xs => obtain rfl := h; rfl
  | map es => obtain rfl := h; rfl
  | _ => simp [AO.flat] at ho
theorem AO.flat_dr {o : AO} (h : o.flat = true) : o.isDr = false ∧ o ≠ .gone := by cases o <;> simp_all [AO.flat, AO.isDr]

/-- What is out goes in: the environment behind it. -/
def Env.close (e : Env) (b : Nat) (ρ : List Nat) : Env := { e with σ := fun c k => if c = b then (e.σ b k ∨ ∃ d ∈ ρ, Own1 e d k) else e.σ c k }

theorem outAt_self (i : Nat) (v : AV) : outAt (some (i, v)) i = some v := by simp [outAt]
theorem outAt_ne {i j : Nat} (v : AV) (h : j ≠ i) : outAt (some (i, v)) j = none := by
  simp only [outAt]; rw [if_neg (fun e => h e.symm)]

theorem close_step {G : Gl} (hr : Rel G e H w) {b esz : Nat} {ms : List (AV × Hp)} {i : Nat} {v v' : AV} {ρ : List Nat} {Hs H1 : Hp} (hb : H[b]? = some (.dr esz ms (some (i, v)))) (hg : Good H ρ) (hbρ : b ∉ ρ) (hv : v.free = true)
    (hown : ∀ c ∈ ρ, ∀ o, H[c]? = some o → o.own = true) (hrv : RenV (inR ρ) v v') (hf : Foc H (inR ρ) ρ Hs) (l1 : H1.length = H.length) (g1 : ∀ c, c ∉ ρ → H1[c]? = H[c]?) (g2 : ∀ c ∈ ρ, H1[c]? = some .gone) :
    Step G e H w (e.close b ρ) (H1.set b (.dr esz (ms.set i (v', Hs)) none)) w := by
  have hbl := lt_of_get hb
  have hlb : live H b := ⟨_, hb, by simp⟩
  have hto : Env.To id e (e.close b ρ) := ⟨fun _ _ => rfl, MemLe.refl _, fun _ _ h => h⟩
  have get : ∀ c o, (H1.set b (.dr esz (ms.set i (v', Hs)) none))[c]? = some o → o ≠ .gone → (c = b ∧ o = .dr esz (ms.set i (v', Hs)) none) ∨ (c ≠ b ∧ c ∉ ρ ∧ H[c]? = some o) := by
    intro c o hc hne
    rw [List.getElem?_set] at hc
    by_cases h1 : b = c
    · subst h1
      rw [if_pos rfl, if_pos (by omega)] at hc
      exact .inl ⟨rfl, (Option.some.inj hc).symm⟩
    · rw [if_neg h1] at hc
      by_cases h2 : c ∈ ρ
      · rw [g2 c h2] at hc; exact absurd (Option.some.inj hc).symm hne
      · rw [g1 c h2] at hc; exact .inr ⟨fun h => h1 h.symm, h2, hc⟩
  have own : ∀ c k, Own1 (e.close b ρ) c k → Own1 e c k ∨ (c = b ∧ ∃ d ∈ ρ, Own1 e d k) := by
    rintro c k (h | h)
    · exact .inl (.inl h)
    · simp only [Env.close] at h
      split at h
      · rename_i hc
        subst hc
        rcases h with h | h
        · exact .inl (.inr h)
        · exact .inr ⟨rfl, h⟩
      · exact .inl (.inr h)
  have lv : ∀ c, live (H1.set b (.dr esz (ms.set i (v', Hs)) none)) c → live H c ∧ c ∉ ρ := by
    rintro c ⟨o, ho, hne⟩
    rcases get c o ho hne with ⟨rfl, _⟩ | ⟨_, h2, h3⟩
    · exact ⟨hlb, hbρ⟩
    · exact ⟨⟨o, h3, hne⟩, h2⟩
  refine ⟨⟨?_, ?_, ?_, ?_, ?_, ?_, ?_, hr.mem, hr.gl⟩, ⟨fun _ _ => rfl, MemLe.refl _, rfl⟩, by simp [l1], WLe.refl _ _, ?_, fun _ _ h _ => .inl h⟩
  · intro c o ho hne blk s cp n hβ
    rcases get c o ho hne with ⟨rfl, rfl⟩ | ⟨_, _, h3⟩
    · obtain ⟨ob, h4, h5⟩ := hr.obj c _ hb (by simp) blk s cp n hβ
      refine ⟨ob, h4, ?_⟩
      obtain ⟨k1, k2, k3⟩ := h5
      exact ⟨k1, by rw [k2, List.length_set], by rw [List.length_set]; exact k3⟩
    · obtain ⟨ob, h4, h5⟩ := hr.obj c o h3 hne blk s cp n hβ
      exact ⟨ob, h4, AO.rel_to hto h5⟩
  · intro c o ho hne hβ
    rcases get c o ho hne with ⟨rfl, rfl⟩ | ⟨_, _, h3⟩
    · obtain ⟨_, h4 | h4⟩ := hr.virt c _ hb (by simp) hβ <;> cases h4
    · exact hr.virt c o h3 hne hβ
  · intro c o ho hne
    rcases get c o ho hne with ⟨rfl, rfl⟩ | ⟨hcb, _, h3⟩
    · have hd := hr.deep c _ hb (by simp)
      rcases hd with ⟨h1, h2, h3⟩ | ⟨blk, s, cp, n, h1, h2, h3, cs, t, fz, h4, ε, h5⟩
      · obtain ⟨_, h4 | h4⟩ := hr.virt c _ hb (by simp) h1 <;> cases h4
      · have hσ : ∀ k, (e.close c ρ).σ c k ↔ (e.σ c k ∨ ∃ d ∈ ρ, Own1 e d k) := fun k => by simp [Env.close]
        have hρk : ∀ d ∈ ρ, ∀ k, Own1 e d k → ¬ Own1 e c k := fun d hd k hk hk' => hbρ ((hr.injO d c (hg.live d hd) hlb k hk hk') ▸ hd)
        have hβf : ∀ j k s1 c1 n1, (e.foc ρ e.bo).β j = .at k s1 c1 n1 → ∃ d, ρ[j]? = some d ∧ Own1 e d k := fun j k s1 c1 n1 h => by
          obtain ⟨d, hd⟩ := foc_β_inv (e := e) (ρ := ρ) (bo := e.bo) (i := j) (by rw [h]; simp)
          rw [foc_β hd] at h
          exact ⟨d, hd, .inl ⟨s1, c1, n1, h⟩⟩
        have hren : Ren (inR ρ) e (subE (e.close c ρ) (e.foc ρ e.bo).β) := ⟨fun b b' hR _ => foc_β (bo := e.bo) hR, MemLe.refl _⟩
        refine .inr ⟨blk, s, cp, n, h1, ?_, ?_, cs, t, fz, h4, fun j => if j = i then (e.foc ρ e.bo).β else ε j, ?_⟩
        · rw [hσ]
          rintro (h | ⟨d, hd, hk⟩)
          · exact h2 h
          · exact hρk d hd blk hk (.inl ⟨s, cp, n, h1⟩)
        · intro k hk
          rw [hσ] at hk
          rcases hk with hk | ⟨d, hd, hk⟩
          · exact h3 k hk
          · exact hr.own_lt (hg.live d hd) hk
        · have gset : ∀ j u Us, (ms.set i (v', Hs))[j]? = some (u, Us) → (j = i ∧ u = v' ∧ Us = Hs ∧ ∃ u0 U0, ms[i]? = some (u0, U0)) ∨ (j ≠ i ∧ ms[j]? = some (u, Us)) := by
            intro j u Us h
            rw [List.getElem?_set] at h
            by_cases hj : i = j
            · subst hj
              rw [if_pos rfl] at h
              split at h
              · rename_i hlt
                have := Option.some.inj h
                exact .inl ⟨rfl, (congrArg Prod.fst this).symm, (congrArg Prod.snd this).symm, ms[i].1, ms[i].2, by simp [hlt]⟩
              · cases h
            · rw [if_neg hj] at h; exact .inr ⟨fun e => hj e.symm, h⟩
          refine ⟨?_, ?_, ?_, ?_⟩
          · intro j u Us hj
            rcases gset j u Us hj with ⟨rfl, rfl, rfl, u0, U0, h0⟩ | ⟨hne', h0⟩
            · obtain ⟨mid, q1, q2, q3, _⟩ := h5.cell _ _ _ h0
              refine ⟨mid, q1, q2, fun v' h => by simp [outAt] at h, fun _ => ?_⟩
              rw [if_pos rfl]
              exact (hrv e _ hren (.inr hv)).1 _ (q3 v (outAt_self _ v))
            · obtain ⟨mid, q1, q2, _, q4⟩ := h5.cell _ _ _ h0
              refine ⟨mid, q1, q2, fun v' h => by simp [outAt] at h, fun _ => ?_⟩
              rw [if_neg hne']
              exact q4 (outAt_ne v hne')
          · intro j u Us hj _
            rcases gset j u Us hj with ⟨rfl, rfl, rfl, u0, U0, h0⟩ | ⟨hne', h0⟩
            · rw [if_pos rfl]
              have gf : ∀ (j : Nat) (o' : AO), Us[j]? = some o' → ∃ d o, ρ[j]? = some d ∧ H[d]? = some o ∧ RenO (inR ρ) o o' ∧ o.own = true := by
                intro j o' h
                have hi := lt_of_get h
                rw [hf.len] at hi
                have hρ : ρ[j]? = some ρ[j] := by simp [hi]
                obtain ⟨o, o2, k1, k2, k3⟩ := hf.get j _ hρ
                rw [k3] at h
                obtain rfl := Option.some.inj h
                exact ⟨_, o, hρ, k1, k2, hown _ (by simp) o k1⟩
              refine ⟨fun j o' ho' hne' blk' s' cp' n' hβ' => ?_, fun j o' ho' hne' hβ' => ?_, fun j hj => ?_, fun j hj => ?_, fun j o' ho' => ?_⟩
              · obtain ⟨d, o, k1, k2, k3, k4⟩ := gf j o' ho'
                have hβ' : e.β d = .at blk' s' cp' n' := by rw [← foc_β (e := e) (bo := e.bo) k1]; exact hβ'
                obtain ⟨ob, k5, k6⟩ := hr.obj d o k2 (fun h => hne' (k3.gone.2 h)) blk' s' cp' n' hβ'
                exact ⟨ob, k5, k3.rel hren (.inr (AO.own_flat k4).2.1) k6⟩
              · obtain ⟨d, o, k1, k2, k3, k4⟩ := gf j o' ho'
                have hβ' : e.β d = .virt := by rw [← foc_β (e := e) (bo := e.bo) k1]; exact hβ'
                exact k3.nil (hr.virt d o k2 (fun h => hne' (k3.gone.2 h)) hβ')
              · rw [hf.len] at hj
                have hρ : ρ[j]? = some ρ[j] := by simp [hj]
                show (e.foc ρ e.bo).β j ≠ .no
                rw [foc_β hρ]
                obtain ⟨o, k1, _⟩ := hg.live ρ[j] (by simp)
                exact hr.bound _ (lt_of_get k1)
              · obtain ⟨d, hd⟩ := foc_β_inv (e := e) (ρ := ρ) (bo := e.bo) (i := j) hj
                rw [hf.len]; exact lt_of_get hd
              · obtain ⟨d, o, k1, k2, k3, k4⟩ := gf j o' ho'
                exact k3.flat (AO.own_flat k4).1
            · rw [if_neg hne']
              exact h5.mem j u Us h0 (outAt_ne v hne')
          · intro j u Us hj _ j' hl k s1 c1 n1 hβ
            rw [hσ]
            rcases gset j u Us hj with ⟨rfl, rfl, rfl, u0, U0, h0⟩ | ⟨hne', h0⟩
            · rw [if_pos rfl] at hβ
              obtain ⟨d, hd, hk⟩ := hβf j' k s1 c1 n1 hβ
              exact .inr ⟨d, mem_of_get hd, hk⟩
            · rw [if_neg hne'] at hβ
              exact .inl (h5.own j u Us h0 (outAt_ne v hne') j' hl k s1 c1 n1 hβ)
          · intro j u Us hj _ j2 u2 Us2 hj2 _ p p2 hl hl2 k s1 c1 n1 s2 c2 n2 hβ hβ2
            rcases gset j u Us hj with ⟨rfl, rfl, rfl, u0, U0, h0⟩ | ⟨hne', h0⟩ <;> rcases gset j2 u2 Us2 hj2 with ⟨rfl, rfl, rfl, u3, U3, h03⟩ | ⟨hne2, h02⟩
            · rw [if_pos rfl] at hβ hβ2
              obtain ⟨d, hd, hk⟩ := hβf p k s1 c1 n1 hβ
              obtain ⟨d2, hd2, hk2⟩ := hβf p2 k s2 c2 n2 hβ2
              have := hr.injO d d2 (hg.live d (mem_of_get hd)) (hg.live d2 (mem_of_get hd2)) k hk hk2
              subst this
              exact ⟨rfl, (List.getElem?_inj (lt_of_get hd) hg.nodup).1 (hd.trans hd2.symm)⟩
            · rw [if_pos rfl] at hβ
              rw [if_neg hne2] at hβ2
              obtain ⟨d, hd, hk⟩ := hβf p k s1 c1 n1 hβ
              exact absurd (.inr (h5.own j2 u2 Us2 h02 (outAt_ne v hne2) p2 hl2 k s2 c2 n2 hβ2)) (hρk d (mem_of_get hd) k hk)
            · rw [if_neg hne'] at hβ
              rw [if_pos rfl] at hβ2
              obtain ⟨d, hd, hk⟩ := hβf p2 k s2 c2 n2 hβ2
              exact absurd (.inr (h5.own j u Us h0 (outAt_ne v hne') p hl k s1 c1 n1 hβ)) (hρk d (mem_of_get hd) k hk)
            · rw [if_neg hne'] at hβ
              rw [if_neg hne2] at hβ2
              exact h5.dis j u Us h0 (outAt_ne v hne') j2 u2 Us2 h02 (outAt_ne v hne2) p p2 hl hl2 k s1 c1 n1 s2 c2 n2 hβ hβ2
    · have hσ : (e.close b ρ).σ c = e.σ c := by funext k; simp [Env.close, hcb]
      rw [hσ]
      exact (hr.deep c o h3 hne).to hto
  · intro c hc; exact hr.bound c (by simpa [l1] using hc)
  · intro c hc; simpa [l1] using hr.dom c hc
  · intro c c' hc hc' k hk hk'
    obtain ⟨q1, q2⟩ := lv c hc
    obtain ⟨q3, q4⟩ := lv c' hc'
    rcases own c k hk with h1 | ⟨e1, d, hd, h1⟩ <;> rcases own c' k hk' with h2 | ⟨e2, d', hd', h2⟩
    · exact hr.injO c c' q1 q3 k h1 h2
    · exact absurd ((hr.injO c d' q1 (hg.live d' hd') k h1 h2) ▸ hd') q2
    · exact absurd ((hr.injO c' d q3 (hg.live d hd) k h2 h1) ▸ hd) q4
    · rw [e1, e2]
  · intro c hc k hk
    rcases own c k hk with hk | ⟨_, d, hd, hk⟩
    · exact hr.sepO c (lv c hc).1 k hk
    · exact hr.sepO d (hg.live d hd) k hk
  · rintro k ⟨c, hc, hk⟩ _
    rcases own c k hk with hk | ⟨_, d, hd, hk⟩
    · exact ⟨c, (lv c hc).1, hk⟩
    · exact ⟨d, hg.live d hd, hk⟩

theorem closeK_sound (hr : Rel X.G e H w) {b : Nat} {k : Hp → T} (h : sat X Q (closeK b H k)) : ∃ e' H', sat X Q (k H') ∧ Step X.G e H w e' H' w ∧ H'.length = H.length ∧ e'.β = e.β ∧ e'.ro = e.ro ∧ e'.bo = e.bo := by
  unfold closeK at h
  obtain ⟨ob, hob, h⟩ := sat_nthK h
  split at h
  · rename_i esz ms i v
    obtain ⟨ρ, hg, h⟩ := reachK_sound (acc := []) ⟨by simp, by simp⟩ h
    split at h
    · exact h.elim
    rename_i hn
    split at h
    · exact h.elim
    rename_i hv
    obtain ⟨h, hown⟩ := flatsK_sound h
    obtain ⟨v', hrv, h⟩ := renK_sound (inward_ok ρ) h
    obtain ⟨Hs, hf, h⟩ := focK_sound h
    obtain ⟨H1, h, l1, g1, g2⟩ := goneK_sound h
    obtain ⟨_, h⟩ := sat_setK h
    have hbρ : b ∉ ρ := fun hb => by rw [(nameIn_iff b ρ).2 hb] at hn; cases hn
    exact ⟨_, _, h, close_step hr hob hg hbρ hv hown hrv hf l1 g1 g2, by simp [l1], rfl, rfl, rfl⟩
  · exact ⟨e, H, h, Step.refl hr, rfl, rfl, rfl, rfl⟩

/-- A range ends. -/
theorem calm_step {G : Gl} (hr : Rel G e H w) {b i : Nat} {es : List (Tr × Tr)} (hb : H[b]? = some (.mapI es i)) : Step G e H w e (H.set b (.map es)) w := by
  have hbl := lt_of_get hb
  have get : ∀ c o, (H.set b (.map es))[c]? = some o → o ≠ .gone → (c = b ∧ o = .map es) ∨ (c ≠ b ∧ H[c]? = some o) := by
    intro c o hc hne
    rw [List.getElem?_set] at hc
    by_cases h1 : b = c
    · subst h1
      rw [if_pos rfl, if_pos hbl] at hc
      exact .inl ⟨rfl, (Option.some.inj hc).symm⟩
    · rw [if_neg h1] at hc; exact .inr ⟨fun h => h1 h.symm, hc⟩
  have hlb : live H b := ⟨_, hb, by simp⟩
  have lv : ∀ c, live (H.set b (.map es)) c → live H c := fun c h => live_set h hlb
  refine ⟨⟨?_, ?_, ?_, ?_, ?_, ?_, ?_, hr.mem, hr.gl⟩, Env.Le.refl _ _, by simp, WLe.refl _ _, fun k ⟨c, hc, hk⟩ _ => ⟨c, lv c hc, hk⟩, fun _ _ h _ => .inl h⟩
  · intro c o ho hne blk s cp n hβ
    rcases get c o ho hne with ⟨rfl, rfl⟩ | ⟨_, h3⟩
    · obtain ⟨ob, h4, h5, ents, cl, h6, h7, h8, _⟩ := hr.obj c _ hb (by simp) blk s cp n hβ
      exact ⟨ob, h4, h5, ents, cl, h6, h7, h8⟩
    · exact hr.obj c o h3 hne blk s cp n hβ
  · intro c o ho hne hβ
    rcases get c o ho hne with ⟨rfl, rfl⟩ | ⟨_, h3⟩
    · obtain ⟨_, h4 | h4⟩ := hr.virt c _ hb (by simp) hβ <;> cases h4
    · exact hr.virt c o h3 hne hβ
  · intro c o ho hne
    rcases get c o ho hne with ⟨rfl, rfl⟩ | ⟨_, h3⟩
    · exact DRel.flat rfl ((hr.deep c _ hb (by simp)).none rfl)
    · exact hr.deep c o h3 hne
  · intro c hc; exact hr.bound c (by simpa using hc)
  · intro c hc; simpa using hr.dom c hc
  · intro c c' hc hc'; exact hr.injO c c' (lv c hc) (lv c' hc')
  · intro c hc; exact hr.sepO c (lv c hc)

theorem settlesK_sound {fin : Bool} : ∀ {l : List Nat} {e : Env} {H : Hp} {k : Hp → T}, Rel X.G e H w → sat X Q (settlesK fin l H k) → ∃ e' H', sat X Q (k H') ∧ Step X.G e H w e' H' w ∧ H'.length = H.length ∧ e'.β = e.β ∧ e'.ro = e.ro ∧ e'.bo = e.bo
  | [], e, H, k, hr, h => ⟨e, H, h, Step.refl hr, rfl, rfl, rfl, rfl⟩
  | b :: r, e, H, k, hr, h => by
    simp only [settlesK] at h
    obtain ⟨ob, hob, h⟩ := sat_nthK h
    split at h
    · obtain ⟨e1, H1, h, s1, l1, b1, r1, o1⟩ := closeK_sound hr h
      obtain ⟨e2, H2, h, s2, l2, b2, r2, o2⟩ := settlesK_sound s1.rel h
      exact ⟨e2, H2, h, s1.trans s2, l2.trans l1, b2.trans b1, r2.trans r1, o2.trans o1⟩
    · obtain ⟨_, h⟩ := sat_setK h
      have s1 := calm_step hr hob
      obtain ⟨e2, H2, h, s2, l2, b2, r2, o2⟩ := settlesK_sound s1.rel h
      exact ⟨e2, H2, h, s1.trans s2, by simpa using l2, b2, r2, o2⟩
    · exact settlesK_sound hr h
theorem settleK_sound {fin : Bool} {refs : List Nat} (hr : Rel X.G e H w) {k : Hp → T} (h : sat X Q (settleK fin refs H k)) : ∃ e' H', sat X Q (k H') ∧ Step X.G e H w e' H' w ∧ H'.length = H.length ∧ e'.β = e.β ∧ e'.ro = e.ro ∧ e'.bo = e.bo := by
  unfold settleK at h
  obtain ⟨ρ, hg, h⟩ := reachK_sound (acc := []) ⟨by simp, by simp⟩ h
  exact settlesK_sound hr h
end Stk
end

section
/- The framework, part 14: what is built of parts. -/
namespace Stk
open Go
variable {X : Cx} {Q : Ex → Fr → Hp → Prop} {e : Env} {H : Hp} {w : World}

theorem fold_put (off : Nat) : ∀ (vs : List Value) (i : Nat) (cells : Array Value), off + i + vs.length ≤ cells.size →
    ((vs.zipIdx i).foldl (fun cs (p : Value × Nat) => cs.setIfInBounds (off + p.2) p.1) cells) = (over cells.toList (off + i) vs).toArray
  | [], i, cells, _ => by simp [over]
  | v :: r, i, cells, h => by
    simp only [List.length_cons] at h
    rw [List.zipIdx_cons, List.foldl_cons, fold_put off r (i + 1) _ (by simp; omega)]
    congr 1
    have := over_step cells.toList (off + i) v r (by simp; omega)
    simp only [Array.toList_setIfInBounds]
    exact this

def pcsV (fr : Fr) : List Pc → List AV
  | [] => []
  | .op x _ :: ps => x.at fr :: pcsV fr ps
  | .z x :: ps => .t x :: pcsV fr ps
def pcsOK (fr : Fr) : List Pc → Prop
  | [] => True
  | .op x n :: ps => (x.at fr).solid = true ∧ (x.at fr).sz = n ∧ pcsOK fr ps
  | .z _ :: ps => pcsOK fr ps
theorem sat_srcsK {fr : Fr} : ∀ {ps : List Pc} {k : List AV → T}, sat X Q (srcsK fr ps k) → pcsOK fr ps ∧ sat X Q (k (pcsV fr ps))
  | [], k, h => ⟨trivial, h⟩
  | .op x n :: ps, k, h => by
    simp only [srcsK, evK_eq] at h
    split at h
    · rename_i h1 h2
      obtain ⟨h3, h4⟩ := sat_srcsK h
      exact ⟨⟨h1, beq_eq h2, h3⟩, h4⟩
    · exact h.elim
  | .z x :: ps, k, h => by
    simp only [srcsK] at h
    obtain ⟨h3, h4⟩ := sat_srcsK h
    exact ⟨h3, h4⟩

def chkPcs (G : Gl) (place : Nat → Option (Nat × Nat)) : Nat → List Pc → List (Nat × Operand) → List Value → Bool
  | _, [], [], [] => true
  | off, .z x :: ps, parts, cs => match chkT x cs with
    | some rest => chkPcs G place (off + x.sz) ps parts rest
    | none => false
  | off, .op x n :: ps, (i, y) :: parts, cs => chkOpd G x y && (match place i with
    | some (o, m) => Nat.beq o off && Nat.beq m n
    | none => false) && Nat.ble n cs.length && chkPcs G place (off + n) ps parts (cs.drop n)
  | _, _, _, _ => false

theorem fill_sound {fr : Fr} {a : Act} (hr : Rel X.G e H w) (hf : FrR X.N e fr a) {place : Nat → Option (Nat × Nat)} : ∀ {ps : List Pc} {parts : List (Nat × Operand)} {cs pre : List Value} {off : Nat},
    chkPcs X.G place off ps parts cs = true → pcsOK fr ps → pre.length = off →
    ∃ out, Instr.fill place (pre ++ cs).toArray (parts.map fun p => (p.1, a.eval p.2)) = some (pre ++ out).toArray ∧ AV.rels e (pcsV fr ps) out
  | [], [], [], pre, off, _, _, _ => ⟨[], by simp [Instr.fill], by simp [pcsV, AV.rels]⟩
  | [], [], _ :: _, pre, off, h, _, _ => by simp [chkPcs] at h
  | [], _ :: _, _, pre, off, h, _, _ => by simp [chkPcs] at h
  | .z x :: ps, parts, cs, pre, off, h, hk, hp => by
    simp only [chkPcs] at h
    split at h
    · rename_i rest hc
      obtain ⟨c, rfl, hrx⟩ := chkT_rel (m := e.ro) hc
      have hl := Tr.rel_length hrx
      obtain ⟨out, h1, h2⟩ := fill_sound (pre := pre ++ c) hr hf h hk (by simp [hp, hl])
      refine ⟨c ++ out, ?_, ?_⟩
      · simpa using h1
      · simp only [pcsV, AV.rels]; exact ⟨c, out, rfl, by simpa only [AV.rel, AV.leaf] using hrx, h2⟩
    · cases h
  | .op x n :: ps, [], cs, pre, off, h, _, _ => by cases cs <;> simp [chkPcs] at h
  | .op x n :: ps, (i, y) :: parts, cs, pre, off, h, hk, hp => by
    simp only [chkPcs, Bool.and_eq_true] at h
    obtain ⟨⟨⟨h1, h2⟩, h3⟩, h4⟩ := h
    obtain ⟨k1, k2, k3⟩ := hk
    have hxv := chkOpd_val hr hf h1
    have hxr := AV.rel_of_val hxv (by intro hu; rw [hu] at k1; cases k1) (by intro xs hu; rw [hu] at k1; cases k1)
    have hl := (AV.rel_length hxr).1
    rw [k2] at hl
    have hn : n ≤ cs.length := Nat.le_of_ble_eq_true h3
    split at h2
    · rename_i o m hpl
      simp only [Bool.and_eq_true] at h2
      obtain ⟨rfl⟩ := beq_eq h2.1
      obtain ⟨rfl⟩ := beq_eq h2.2
      obtain ⟨out, h5, h6⟩ := fill_sound (pre := pre ++ (a.eval y).cells.toList) hr hf h4 k3 (by simp [hp]; simpa using hl)
      refine ⟨(a.eval y).cells.toList ++ out, ?_, ?_⟩
      · simp only [List.map_cons, Instr.fill, hpl]
        have hsz : (a.eval y).cells.size = n := by simpa using hl
        rw [if_neg (by
          simp only [hsz, List.size_toArray, List.length_append, hp]
          simp; omega)]
        have hfold : Array.foldl (fun cs (x : Value × Nat) => cs.setIfInBounds (off + x.2) x.1) (pre ++ cs).toArray (a.eval y).cells.zipIdx = (pre ++ (a.eval y).cells.toList ++ cs.drop n).toArray := by
          rw [← Array.foldl_toList, Array.toList_zipIdx]
          rw [fold_put off _ 0 _ (by simp [hp, hsz]; exact hn)]
          have hm : (cs.take n).length = n := by rw [List.length_take, Nat.min_eq_left hn]
          have := over_pre (pre := pre) (mid := cs.take n) (post := cs.drop n) (mid' := (a.eval y).cells.toList) (by rw [hm]; exact hl)
          rw [List.take_append_drop, hp] at this
          simp only [Nat.add_zero]
          rw [this, List.append_assoc]
        rw [hfold]
        simpa using h5
      · simp only [pcsV, AV.rels]; exact ⟨_, out, rfl, hxr, h6⟩
    · cases h2

/-! ### Structs and arrays -/
def zeroCellsOf (P : Program) (t : TypeId) : Option (List Value) :=
  match P.info? t with
  | some i => match i.zero with
    | some v => some v.cells.toList
    | none => none
  | none => none
theorem zeroCellsOf_run {P : Program} {t : TypeId} {zs : List Value} (h : zeroCellsOf P t = some zs) : ∃ v, zs = v.cells.toList ∧ ∀ w, (zeroValue t).run P w = .ok v w := by
  unfold zeroCellsOf at h
  split at h
  · rename_i i hi
    split at h
    · rename_i v hv
      exact ⟨v, (Option.some.inj h).symm, fun w => by simp [zeroValue, typeInfo, program, bind, Sem.bind, Sem.run, hi, pure, hv]⟩
    · cases h
  · cases h

def placeS (P : Program) (fs : List Field) (i : Nat) : Option (Nat × Nat) :=
  match fs[i]? with
  | some f => match P.info? f.type with
    | some inf => some (f.offset, inf.size)
    | none => none
  | none => none
def hasInfo (P : Program) (f : Field) : Bool := (P.info? f.type).isSome

theorem mapM_places {P : Program} (w : World) : ∀ (fs : List Field), fs.all (hasInfo P) = true →
    ∃ ps : List (Nat × Nat), ((fs.mapM fun f => do pure (f.offset, ← sizeOf f.type)) : Sem (List (Nat × Nat))).run P w = .ok ps w ∧ ∀ i, ps[i]? = placeS P fs i
  | [], _ => ⟨[], rfl, fun i => by simp [placeS]⟩
  | f :: fs, h => by
    simp only [List.all_cons, Bool.and_eq_true] at h
    obtain ⟨ps, h1, h2⟩ := mapM_places w fs h.2
    obtain ⟨inf, hi⟩ := Option.isSome_iff_exists.1 h.1
    have hs := run_sizeOf (P := P) (t := f.type) (n := inf.size) (by rw [hi]; rfl) w
    refine ⟨(f.offset, inf.size) :: ps, ?_, ?_⟩
    · rw [List.mapM_cons]
      simp only [bind_assoc, pure_bind, Sem.run_bind, hs, h1, Result.andThen, Sem.run_pure]
    · intro i
      cases i with
      | zero => simp [placeS, hi]
      | succ i => simpa [placeS] using h2 i

theorem op_mkS {t : TypeId} {ps : List Pc} {parts : Array (Nat × Operand)} {fs : Array Field} {zs : List Value} (ht : X.P.underlying t = some (.struct fs)) (hi : fs.toList.all (hasInfo X.P) = true) (hz : zeroCellsOf X.P t = some zs)
    (hc : chkPcs X.G (placeS X.P fs.toList) 0 ps parts.toList zs = true) : OpS0 X (.build t parts) (.mkS ps) := by
  intro o ho e H w fr a Q k hr hf hs
  simp only [opT] at hs
  obtain ⟨hok, hs⟩ := sat_srcsK hs
  rw [mkAgg_eq] at hs
  obtain ⟨v, rfl, hzr⟩ := zeroCellsOf_run hz
  obtain ⟨out, h1, h2⟩ := fill_sound (pre := []) hr hf hc hok rfl
  obtain ⟨pl, h3, h4⟩ := mapM_places (P := X.P) w fs.toList hi
  have hm : (fs.mapM fun f => (do pure (f.offset, ← sizeOf f.type) : Sem (Nat × Nat))).run X.P w = .ok pl.toArray w := by
    rw [Array.mapM_eq_mapM_toList]
    simp only [Sem.run_map, h3]
    rfl
  have : (execOp a.eval o).run X.P w = .ok (.value (.agg out.toArray)) w := by
    simp only [execOp, ho]
    refine run_v ?_
    have hpl : (fun i => pl[i]?) = placeS X.P fs.toList := by funext i; rw [h4]
    have h5 : Instr.fill (fun i => pl[i]?) v.cells (List.map (fun x => (x.1, a.eval x.2)) parts.toList) = some out.toArray := by
      rw [hpl]; simpa using h1
    simp only [Instr.build, Sem.run_bind, hzr, Result.andThen, run_under ht, hm]
    simp only [Array.toList_map, List.getElem?_toArray, h5, Sem.run_pure]
  rw [this]
  refine Out.same hr ?_ hs
  have := AV.val_of_rel (mkAggV_rel.2 h2)
  rcases this with ⟨_, h⟩ | ⟨h, _⟩
  · exact h
  · rw [mkAggV_isAgg] at h; cases h

theorem op_mkA {t el : TypeId} {n m sz : Nat} {ps : List Pc} {parts : Array (Nat × Operand)} {zs : List Value} (ht : X.P.underlying t = some (.array m el)) (hi : (X.P.info? el).map (·.size) = some sz) (hz : zeroCellsOf X.P t = some zs)
    (hc : chkPcs X.G (fun i => some (i * sz, sz)) 0 ps parts.toList zs = true) : OpS0 X (.build t parts) (.mkA n ps) := by
  intro o ho e H w fr a Q k hr hf hs
  simp only [opT] at hs
  obtain ⟨hok, hs⟩ := sat_srcsK hs
  rw [allTr_eq] at hs
  obtain ⟨v, rfl, hzr⟩ := zeroCellsOf_run hz
  obtain ⟨out, h1, h2⟩ := fill_sound (pre := []) hr hf hc hok rfl
  split at hs
  · rename_i ys hys
    have hy := mkAggV_go hys
    split at hs
    · rename_i g1 g2
      have hn := beq_eq g1
      have : (execOp a.eval o).run X.P w = .ok (.value (.agg out.toArray)) w := by
        simp only [execOp, ho]
        refine run_v ?_
        have h5 : Instr.fill (fun i => some (i * sz, sz)) v.cells (List.map (fun x => (x.1, a.eval x.2)) parts.toList) = some out.toArray := by simpa using h1
        simp only [Instr.build, Sem.run_bind, hzr, Result.andThen, run_under ht, run_sizeOf hi]
        simp only [Array.toList_map, h5, Sem.run_pure]
      rw [this]
      refine Out.same hr ?_ hs
      rw [hy] at h2
      have h3 := AV.rels_toAVs.1 h2
      simp only [AV.val, Tr.isAgg, Tr.rel]
      refine ⟨_, rfl, hn, ?_⟩
      have hna : ∀ y ∈ ys, y.isAgg = false := by
        intro y hy'
        rw [List.any_eq_false] at g2
        simpa using g2 y hy'
      have : ∀ (ys : List Tr) (cs : List Value), Tr.rels e.ro ys cs → (∀ y ∈ ys, y.isAgg = false) → Tr.ones e.ro ys cs := by
        intro ys
        induction ys with
        | nil => intro cs h _; exact h
        | cons y r ih =>
          intro cs h hna
          simp only [Tr.rels] at h
          obtain ⟨c, b, rfl, h1, h2⟩ := h
          have hya := hna y (by simp)
          have hsz : y.sz = 1 := by cases y <;> first | rfl | simp [Tr.isAgg] at hya
          have hl := Tr.rel_length h1
          rw [hsz] at hl
          match c, hl, h1 with
          | [c], _, h1 => simp only [Tr.ones]; exact ⟨c, b, rfl, hya, h1, ih b h2 fun z hz => hna z (by simp [hz])⟩
      simpa using this ys out h3 hna
    · exact hs.elim
  · exact hs.elim

def repCells (n : Nat) (zs : List Value) : List Value :=
  match n with
  | 0 => []
  | n + 1 => zs ++ repCells n zs
theorem repCells_eq (zs : Array Value) : ∀ n, (Builtin.zeroCells zs n).toList = repCells n zs.toList
  | 0 => by simp [Builtin.zeroCells, repCells]
  | n + 1 => by rw [zeroCells_succ, repCells, repCells_eq zs n]
theorem repCells_length (zs : List Value) : ∀ n, (repCells n zs).length = n * zs.length
  | 0 => by simp [repCells]
  | n + 1 => by rw [repCells, List.length_append, repCells_length zs n, Nat.succ_mul, Nat.add_comm]

theorem run_newRow {P : Program} (t : TypeId) (cs : Array Value) (w : World) : (newRow t cs).run P w = .ok ⟨w.heap.size, 0, none⟩ (w.alloc (.cells cs t)) := by
  simp [newRow, newObj, bind, Sem.bind, Sem.run, pure]

theorem op_mkSl {t el : TypeId} {len sz : Nat} {ps : List Pc} {parts : Array (Nat × Operand)} {zs : List Value} (ht : X.P.underlying t = some (.slice el)) (hi : (X.P.info? el).map (·.size) = some sz) (hz : zeroCellsOf X.P el = some zs)
    (hzl : zs.length = sz) (hpl : ps.length = len) (hmx : len * sz ≤ 2 ^ 24) (hc : chkPcs X.G (fun i => some (i * sz, sz)) 0 ps parts.toList (repCells len zs) = true) : OpS X (.buildSlice t len parts) (.mkSl sz ps) := by
  intro o ho e H w fr a Q k hr hf hs
  simp only [opT] at hs
  obtain ⟨hok, hs⟩ := sat_srcsK hs
  rw [litK_eq, allTr_eq] at hs
  obtain ⟨v, rfl, hzr⟩ := zeroCellsOf_run hz
  obtain ⟨out, h1, h2⟩ := fill_sound (pre := []) hr hf hc hok rfl
  have hvl : (pcsV fr ps).length = len := by
    rw [← hpl]
    have : ∀ ps : List Pc, (pcsV fr ps).length = ps.length := by
      intro ps
      induction ps with
      | nil => rfl
      | cons p r ih => cases p <;> simp [pcsV, ih]
    exact this ps
  have hzs : v.cells.size = sz := by simpa using hzl
  have hfl : ∀ (place : Nat → Option (Nat × Nat)) (vs : List (Nat × Value)) (cs cs' : Array Value), Instr.fill place cs vs = some cs' → cs'.size = cs.size := by
    intro place vs
    induction vs with
    | nil => intro cs cs' h; simp only [Instr.fill, Option.some.injEq] at h; rw [h]
    | cons p r ih =>
      intro cs cs' h
      obtain ⟨i, x⟩ := p
      simp only [Instr.fill] at h
      split at h
      · cases h
      · split at h
        · cases h
        · have := ih _ _ h
          rw [this, ← Array.foldl_toList]
          generalize x.cells.zipIdx.toList = l
          induction l generalizing cs with
          | nil => rfl
          | cons q l ihl => 
            rename_i off size _ _
            have : ∀ (l : List (Value × Nat)) (cs : Array Value), (l.foldl (fun cs (x : Value × Nat) => cs.setIfInBounds (off + x.2) x.1) cs).size = cs.size := by
              intro l
              induction l with
              | nil => intro cs; rfl
              | cons q l ih2 => intro cs; rw [List.foldl_cons, ih2]; simp
            exact this _ _
  have hol : out.length = len * sz := by
    have := hfl _ _ _ _ h1
    simp [repCells_length] at this
    rw [this, hzs]
  have hrun : (execOp a.eval o).run X.P w = .ok (.value (.slice (some ⟨w.heap.size, 0, none⟩) len len)) (w.alloc (.cells out.toArray el)) := by
    simp only [execOp, ho]
    refine run_v ?_
    have h5 : Instr.fill (fun i => some (i * sz, sz)) (Builtin.zeroCells v.cells len) (List.map (fun x => (x.1, a.eval x.2)) parts.toList) = some out.toArray := by
      have : (Builtin.zeroCells v.cells len) = (repCells len v.cells.toList).toArray := by
        apply Array.ext'; rw [repCells_eq]
      rw [this]; simpa using h1
    simp only [Instr.buildSlice, Sem.run_bind, run_under ht, Result.andThen, run_sizeOf hi]
    by_cases h0 : len * sz = 0
    · have h6 : Instr.fill (fun i => some (i * sz, sz)) #[] (List.map (fun x => (x.1, a.eval x.2)) parts.toList) = some out.toArray := by
        rw [← h5]; congr 1; simp [Builtin.zeroCells, hzs, h0]
      have hr0 : ∀ f : Nat → Value, Array.map f (Array.range 0) = #[] := fun f => by simp
      simp [h0, hr0, h6, Result.andThen, run_newRow]
    · have h6 : Instr.fill (fun i => some (i * sz, sz)) ((Array.range (len * sz)).map (v.cells[· % v.cells.size]!)) (List.map (fun x => (x.1, a.eval x.2)) parts.toList) = some out.toArray := by
        rw [← h5]; simp only [Builtin.zeroCells, hzs]
      have h0' : ¬ (len = 0 ∨ sz = 0) := fun hh => h0 (by rcases hh with rfl | rfl <;> simp)
      have hif' : ¬ (2 ^ 24 < len * sz) := by omega
      simp only [gt_iff_lt, hif', h0, if_false, Sem.run_bind, hzr, Result.andThen, Sem.run_pure, h6, Array.toList_map, run_newRow]
  rw [hrun]
  split at hs
  · rename_i ys hys
    have hy := mkAggV_go hys
    split at hs
    · rename_i hall
      rw [newK_eq] at hs
      rw [hy] at h2
      have hrow := rels_row (AV.rels_toAVs.1 h2) hall
      have hyl : ys.length = len := by
        rw [← hvl, hy]
        have : ∀ ys : List Tr, (toAVs ys).length = ys.length := by
          intro ys
          induction ys with
          | nil => rfl
          | cons y r ih => simp [toAVs, ih]
        exact (this ys).symm
      have hst := Step.new (o := .row sz ys) (ob := .cells out.toArray el) (esz := sz) (cap := len) (n := some ys.length) hr
        ⟨rfl, rfl, _, _, (0, 0), rfl, ⟨Nat.le_refl _, fun j _ => by simp⟩, by simpa using hol, by omega, fun c hc => Tr.row_one hrow c (by simpa using hc), out, [], by simp, hrow⟩
      refine ⟨_, _, _, _, _, .inl rfl, ?_, hst, hs⟩
      simp only [AV.val, AV.leaf]
      exact .inr ⟨_, _, _, _, some ⟨w.heap.size, 0, none⟩, len, e.bind_same _ _, by rw [hvl], by rw [hvl]; exact Nat.le_refl _, fun n' hn' => by obtain rfl := Option.some.inj hn'; simp [hvl, hyl], by simp [hvl], .inr (by simp)⟩
    · exact hs.elim
  · rw [newK_eq] at hs
    have hst := Step.new (o := .var (.agg (pcsV fr ps))) (ob := .cells out.toArray el) (esz := 1) (cap := 0) (n := none) hr
      ⟨rfl, rfl, _, _, (0, 0), rfl, by simpa only [AV.rel] using h2, ⟨Nat.le_refl _, fun j _ => by simp⟩⟩
    refine ⟨_, _, _, _, _, .inl rfl, ?_, hst, hs⟩
    simp only [AV.val, AV.leaf]
    exact .inr ⟨_, _, _, _, some ⟨w.heap.size, 0, none⟩, len, e.bind_same _ _, by rw [hvl], by rw [hvl]; exact Nat.le_refl _, fun n' hn' => by simp at hn', by simp [hvl], .inr (by simp)⟩
theorem op_mkSlF {t el : TypeId} {len sz : Nat} {ps : List Pc} {parts : Array (Nat × Operand)} {zs : List Value} (ht : X.P.underlying t = some (.slice el)) (hi : (X.P.info? el).map (·.size) = some sz) (hz : zeroCellsOf X.P el = some zs)
    (hzl : zs.length = sz) (hpl : ps.length = len) (hmx : len * sz ≤ 2 ^ 24) (hc : chkPcs X.G (fun i => some (i * sz, sz)) 0 ps parts.toList (repCells len zs) = true) : OpS X (.buildSlice t len parts) (.mkSlF sz ps) := by
  intro o ho e H w fr a Q k hr hf hs
  simp only [opT] at hs
  obtain ⟨hok, hs⟩ := sat_srcsK hs
  rw [litK_eq] at hs
  obtain ⟨v, rfl, hzr⟩ := zeroCellsOf_run hz
  obtain ⟨out, h1, h2⟩ := fill_sound (pre := []) hr hf hc hok rfl
  have hvl : (pcsV fr ps).length = len := by
    rw [← hpl]
    have : ∀ ps : List Pc, (pcsV fr ps).length = ps.length := by
      intro ps
      induction ps with
      | nil => rfl
      | cons p r ih => cases p <;> simp [pcsV, ih]
    exact this ps
  have hzs : v.cells.size = sz := by simpa using hzl
  have hfl : ∀ (place : Nat → Option (Nat × Nat)) (vs : List (Nat × Value)) (cs cs' : Array Value), Instr.fill place cs vs = some cs' → cs'.size = cs.size := by
    intro place vs
    induction vs with
    | nil => intro cs cs' h; simp only [Instr.fill, Option.some.injEq] at h; rw [h]
    | cons p r ih =>
      intro cs cs' h
      obtain ⟨i, x⟩ := p
      simp only [Instr.fill] at h
      split at h
      · cases h
      · split at h
        · cases h
        · have := ih _ _ h
          rw [this, ← Array.foldl_toList]
          generalize x.cells.zipIdx.toList = l
          induction l generalizing cs with
          | nil => rfl
          | cons q l ihl => 
            rename_i off size _ _
            have : ∀ (l : List (Value × Nat)) (cs : Array Value), (l.foldl (fun cs (x : Value × Nat) => cs.setIfInBounds (off + x.2) x.1) cs).size = cs.size := by
              intro l
              induction l with
              | nil => intro cs; rfl
              | cons q l ih2 => intro cs; rw [List.foldl_cons, ih2]; simp
            exact this _ _
  have hol : out.length = len * sz := by
    have := hfl _ _ _ _ h1
    simp [repCells_length] at this
    rw [this, hzs]
  have hrun : (execOp a.eval o).run X.P w = .ok (.value (.slice (some ⟨w.heap.size, 0, none⟩) len len)) (w.alloc (.cells out.toArray el)) := by
    simp only [execOp, ho]
    refine run_v ?_
    have h5 : Instr.fill (fun i => some (i * sz, sz)) (Builtin.zeroCells v.cells len) (List.map (fun x => (x.1, a.eval x.2)) parts.toList) = some out.toArray := by
      have : (Builtin.zeroCells v.cells len) = (repCells len v.cells.toList).toArray := by
        apply Array.ext'; rw [repCells_eq]
      rw [this]; simpa using h1
    simp only [Instr.buildSlice, Sem.run_bind, run_under ht, Result.andThen, run_sizeOf hi]
    by_cases h0 : len * sz = 0
    · have h6 : Instr.fill (fun i => some (i * sz, sz)) #[] (List.map (fun x => (x.1, a.eval x.2)) parts.toList) = some out.toArray := by
        rw [← h5]; congr 1; simp [Builtin.zeroCells, hzs, h0]
      have hr0 : ∀ f : Nat → Value, Array.map f (Array.range 0) = #[] := fun f => by simp
      simp [h0, hr0, h6, Result.andThen, run_newRow]
    · have h6 : Instr.fill (fun i => some (i * sz, sz)) ((Array.range (len * sz)).map (v.cells[· % v.cells.size]!)) (List.map (fun x => (x.1, a.eval x.2)) parts.toList) = some out.toArray := by
        rw [← h5]; simp only [Builtin.zeroCells, hzs]
      have h0' : ¬ (len = 0 ∨ sz = 0) := fun hh => h0 (by rcases hh with rfl | rfl <;> simp)
      have hif' : ¬ (2 ^ 24 < len * sz) := by omega
      simp only [gt_iff_lt, hif', h0, if_false, Sem.run_bind, hzr, Result.andThen, Sem.run_pure, h6, Array.toList_map, run_newRow]
  rw [hrun]
  obtain ⟨ys, e1, H1, hs, s1, hrs, hyl⟩ := frzs_sound hr h2 hs
  split at hs
  · rename_i hall
    rw [newK_eq] at hs
    have hrow := rels_row hrs hall
    have hyl : ys.length = len := by rw [hyl, hvl]
    have hst := Step.new (o := .row sz ys) (ob := .cells out.toArray el) (esz := sz) (cap := len) (n := some ys.length) s1.rel
      ⟨rfl, rfl, _, _, (0, 0), rfl, ⟨Nat.le_refl _, fun j _ => by simp⟩, by simpa using hol, by omega, fun c hc => Tr.row_one hrow c (by simpa using hc), out, [], by simp, hrow⟩
    refine ⟨_, _, _, _, _, .inl rfl, ?_, s1.trans hst, hs⟩
    simp only [AV.val, AV.leaf]
    exact .inr ⟨_, _, _, _, some ⟨w.heap.size, 0, none⟩, len, e1.bind_same _ _, by rw [hvl], by rw [hvl]; exact Nat.le_refl _, fun n' hn' => by obtain rfl := Option.some.inj hn'; simp [hvl, hyl], by simp [hvl], .inr (by simp)⟩
  · exact hs.elim
end Stk
end

section
/- The framework, part Q: comparable data held against each other. -/
set_option linter.unusedSimpArgs false
namespace Stk
open Go
variable {X : Cx} {Q : Ex → Fr → Hp → Prop} {e : Env} {H : Hp} {w : World}

/-- A value that is this data. -/
def TV (m : Nat → Option (List Value)) (x : Tr) (a : Value) : Prop :=
  match x.isAgg with
  | true => ∃ cs, a = .agg cs ∧ x.rel m cs.toList
  | false => x.rel m [a]
theorem TV.mk {m : Nat → Option (List Value)} {x : Tr} {mid : List Value} (h : x.rel m mid) : (x.isAgg = true ∧ TV m x (.agg mid.toArray)) ∨ (x.isAgg = false ∧ ∃ c, mid = [c] ∧ TV m x c) := by
  cases hx : x.isAgg with
  | true => exact .inl ⟨rfl, by simp only [TV, hx]; exact ⟨_, rfl, by simpa using h⟩⟩
  | false =>
    refine .inr ⟨rfl, ?_⟩
    have hl := Tr.rel_length h
    have : x.sz = 1 := by cases x <;> first | rfl | simp [Tr.isAgg] at hx
    rw [this] at hl
    match mid, hl, h with
    | [c], _, h => exact ⟨c, rfl, by simp only [TV, hx]; exact h⟩

theorem part_sound {P : Program} {w : World} {m : Nat → Option (List Value)} {t : TypeId} {cs : Array Value} {off : Nat} {mid : List Value} {x : Tr} (hs : Sub cs.toList off mid) (hx : x.rel m mid) (ht : tyOK P t x.isAgg x.sz = true) :
    ∃ a, (part t cs off).run P w = .ok a w ∧ TV m x a := by
  obtain ⟨h1, h2⟩ := tyOK_run ht w
  have hl := Tr.rel_length hx
  rcases TV.mk hx with ⟨ha, hv⟩ | ⟨ha, c, rfl, hv⟩
  · refine ⟨_, ?_, hv⟩
    rw [ha] at h1
    simp only [part, Sem.run_bind, h1, Result.andThen, if_true, h2]
    have : cs.extract off (off + x.sz) = mid.toArray := by
      apply Array.ext'
      rw [Array.toList_extract]
      simp only [List.extract_eq_take_drop]
      have := hs.eq
      rw [show off + x.sz - off = mid.length from by omega]; simpa using this
    rw [this]; rfl
  · refine ⟨c, ?_, hv⟩
    rw [ha] at h1
    simp only [part, Sem.run_bind, h1, Result.andThen]
    have := hs.get (j := 0) rfl
    have : cs[off]? = some c := by simpa using this
    simp [this]

mutual
theorem fits_sz : ∀ {x : Tr} {s : Sh}, x.fits s = true → x.sz = s.sz ∧ x.isAgg = s.isAgg
  | .bool _, s, h => by cases s <;> simp_all [Tr.fits, Tr.sz, Sh.sz, Tr.isAgg, Sh.isAgg]
  | .int _ _, s, h => by cases s <;> simp_all [Tr.fits, Tr.sz, Sh.sz, Tr.isAgg, Sh.isAgg]
  | .str _, s, h => by cases s <;> simp_all [Tr.fits, Tr.sz, Sh.sz, Tr.isAgg, Sh.isAgg]
  | .nilp, s, h => by cases s <;> simp [Tr.fits] at h
  | .nilm, s, h => by cases s <;> simp [Tr.fits] at h
  | .nilf, s, h => by cases s <;> simp [Tr.fits] at h
  | .nili, s, h => by cases s <;> simp [Tr.fits] at h
  | .sl _ _ _, s, h => by cases s <;> simp [Tr.fits] at h
  | .agg xs, s, h => by
    cases s <;> simp [Tr.fits] at h
    simp [Tr.sz, Sh.sz, fitss_sz h, Tr.isAgg, Sh.isAgg]
  | .arr n xs, s, h => by
    cases s <;> simp only [Tr.fits, Bool.and_eq_true, Bool.false_eq_true] at h
    have := beq_eq h.1
    simp [Tr.sz, Sh.sz, this, Tr.isAgg, Sh.isAgg]
theorem fitss_sz : ∀ {xs : List Tr} {ss : List Sh}, Tr.fitss xs ss = true → Tr.szs xs = Sh.szs ss
  | [], ss, h => by cases ss <;> simp_all [Tr.fitss, Tr.szs_nil, Tr.szs_cons, Sh.szs_nil, Sh.szs_cons]
  | x :: xs, ss, h => by
    cases ss <;> simp [Tr.fitss] at h
    simp [Tr.szs_nil, Tr.szs_cons, Sh.szs_nil, Sh.szs_cons, (fits_sz h.1).1, fitss_sz h.2]
end
theorem fitsa_get : ∀ {xs : List Tr} {s : Sh}, Tr.fitsa xs s = true → ∀ {i : Nat} {x : Tr}, xs[i]? = some x → x.fits s = true
  | [], s, _, i, x, hi => by simp at hi
  | y :: ys, s, h, i, x, hi => by
    simp only [Tr.fitsa, Bool.and_eq_true] at h
    cases i with
    | zero => simp at hi; subst hi; exact h.1
    | succ i => exact fitsa_get h.2 (by simpa using hi)

def eqFs (P : Program) (f : TypeId → Sh → Bool) : Nat → List Field → List Sh → Bool
  | _, [], [] => true
  | off, fl :: fs, s :: ss => fl.name != "_" && Nat.beq fl.offset off && tyOK P fl.type s.isAgg s.sz && f fl.type s && eqFs P f (off + s.sz) fs ss
  | _, _, _ => false
/-- Comparable types, with their shapes. -/
def eqSh (P : Program) : Nat → TypeId → Sh → Bool
  | 0, _, _ => false
  | d + 1, t, sh => match P.underlying t, sh with
    | some .bool, .bool => true
    | some (.int k), .int j => kindEq k j
    | some .string, .str => true
    | some (.struct fs), .agg ss => !P.stoodInHeld t && eqFs P (eqSh P d) 0 fs.toList ss
    | some (.array n e), .arr m s => Nat.beq n m && tyOK P e s.isAgg 1 && !s.isAgg && eqSh P d e s
    | _, _ => false

theorem eqFields_sound {P : Program} {m : Nat → Option (List Value)} {w : World} {D : Nat} {f : TypeId → Sh → Bool} {xa ya : Array Value}
    (ih : ∀ t s x y a b, f t s = true → x.fits s = true → y.fits s = true → TV m x a → TV m y b → (Op.equalIn D t a b).run P w = .ok (x.eqb y) w) :
    ∀ {fs : List Field} {ss : List Sh} {off : Nat} {xs ys : List Tr} {p q cs ds : List Value}, eqFs P f off fs ss = true → Tr.fitss xs ss = true → Tr.fitss ys ss = true →
      xa.toList = p ++ cs → p.length = off → ya.toList = q ++ ds → q.length = off → Tr.rels m xs cs → Tr.rels m ys ds →
      (Op.eqFields D xa ya fs).run P w = .ok (Tr.eqbs xs ys) w
  | [], [], off, xs, ys, p, q, cs, ds, _, hx, hy, _, _, _, _, _, _ => by
    cases xs with
    | nil => cases ys with
      | nil => simp [Op.eqFields, Tr.eqbs]
      | cons _ _ => simp [Tr.fitss] at hy
    | cons _ _ => simp [Tr.fitss] at hx
  | [], s :: ss, off, xs, ys, p, q, cs, ds, h, _, _, _, _, _, _, _, _ => by simp [eqFs] at h
  | fl :: fs, [], off, xs, ys, p, q, cs, ds, h, _, _, _, _, _, _, _, _ => by simp [eqFs] at h
  | fl :: fs, s :: ss, off, xs, ys, p, q, cs, ds, h, hx, hy, e1, e2, e3, e4, hr, hr' => by
    cases xs with
    | nil => simp [Tr.fitss] at hx
    | cons x xs =>
      cases ys with
      | nil => simp [Tr.fitss] at hy
      | cons y ys =>
        simp only [Tr.fitss, Bool.and_eq_true] at hx hy
        simp only [eqFs, Bool.and_eq_true, bne_iff_ne, ne_eq] at h
        obtain ⟨⟨⟨⟨k1, k2⟩, k3⟩, k4⟩, k5⟩ := h
        have k2 := beq_eq k2
        simp only [Tr.rels] at hr hr'
        obtain ⟨a, b, rfl, h1, h2⟩ := hr
        obtain ⟨a', b', rfl, h1', h2'⟩ := hr'
        obtain ⟨sx, gx⟩ := fits_sz hx.1
        obtain ⟨sy, gy⟩ := fits_sz hy.1
        obtain ⟨u, hu, hu2⟩ := part_sound (w := w) (P := P) (t := fl.type) (cs := xa) (off := off) ⟨p, b, e1, e2⟩ h1 (by rw [gx, sx]; exact k3)
        obtain ⟨v, hv, hv2⟩ := part_sound (w := w) (P := P) (t := fl.type) (cs := ya) (off := off) ⟨q, b', e3, e4⟩ h1' (by rw [gy, sy]; exact k3)
        have hl := Tr.rel_length h1
        have hl' := Tr.rel_length h1'
        have rest := eqFields_sound ih (p := p ++ a) (q := q ++ a') k5 hx.2 hy.2 (by rw [e1, List.append_assoc]) (by simp [e2, hl, sx]) (by rw [e3, List.append_assoc]) (by simp [e4, hl', sy]) h2 h2'
        simp only [Op.eqFields, k1, ne_eq, not_false_eq_true, if_true, k2, Sem.run_bind, hu, hv, Result.andThen_ok, ih _ _ _ _ _ _ k4 hx.1 hy.1 hu2 hv2, Tr.eqbs]
        cases x.eqb y with
        | true => simpa using rest
        | false => simp

theorem eqbs_drop {xs ys : List Tr} {i : Nat} {x y : Tr} (hx : xs[i]? = some x) (hy : ys[i]? = some y) : Tr.eqbs (xs.drop i) (ys.drop i) = (x.eqb y && Tr.eqbs (xs.drop (i + 1)) (ys.drop (i + 1))) := by
  have lx := lt_of_get hx
  have ly := lt_of_get hy
  rw [List.drop_eq_getElem_cons lx, List.drop_eq_getElem_cons ly]
  have : xs[i] = x := by rw [List.getElem?_eq_getElem lx] at hx; exact Option.some.inj hx
  have : ys[i] = y := by rw [List.getElem?_eq_getElem ly] at hy; exact Option.some.inj hy
  simp_all [Tr.eqbs]

theorem eqIn_sound {P : Program} {m : Nat → Option (List Value)} {w : World} {D0 : Nat} : ∀ (d : Nat) (t : TypeId) (sh : Sh) (x y : Tr) (a b : Value), eqSh P d t sh = true → x.fits sh = true → y.fits sh = true → TV m x a → TV m y b →
    (Op.equalIn (D0 + d) t a b).run P w = .ok (x.eqb y) w
  | 0, t, sh, x, y, a, b, h, _, _, _, _ => by simp [eqSh] at h
  | d + 1, t, sh, x, y, a, b, h, hx, hy, hxa, hyb => by
    unfold eqSh at h
    split at h
    · rename_i hu
      cases x <;> simp [Tr.fits] at hx
      cases y <;> simp [Tr.fits] at hy
      simp only [TV, Tr.isAgg, Tr.rel, List.cons.injEq, and_true] at hxa hyb
      subst hxa hyb
      rw [← Nat.add_assoc, run_equalIn_bool w _ t _ _ hu]; simp [Tr.eqb]
    · rename_i k j hu
      obtain rfl := kindEq_eq h
      cases x <;> simp [Tr.fits] at hx
      cases y <;> simp [Tr.fits] at hy
      simp only [TV, Tr.isAgg, Tr.rel, List.cons.injEq, and_true] at hxa hyb
      subst hxa hyb
      obtain rfl := kindEq_eq hx
      obtain rfl := kindEq_eq hy
      rw [← Nat.add_assoc, run_equalIn_int w _ t _ _ _ _ hu]; simp [Tr.eqb]
    · rename_i hu
      cases x <;> simp [Tr.fits] at hx
      cases y <;> simp [Tr.fits] at hy
      simp only [TV, Tr.isAgg, Tr.rel, List.cons.injEq, and_true] at hxa hyb
      subst hxa hyb
      rw [← Nat.add_assoc, run_equalIn_string w _ t _ _ hu]; simp [Tr.eqb]
    · rename_i fs ss hu
      simp only [Bool.and_eq_true, Bool.not_eq_true'] at h
      cases x <;> simp [Tr.fits] at hx
      cases y <;> simp [Tr.fits] at hy
      simp only [TV, Tr.isAgg, Tr.rel] at hxa hyb
      obtain ⟨cs, rfl, h1⟩ := hxa
      obtain ⟨ds, rfl, h2⟩ := hyb
      have hf : P.fieldsOf t = fs := by simp [Program.fieldsOf, hu]
      rw [← Nat.add_assoc, run_equalIn_struct w _ t cs ds (by rw [hf]; exact hu) h.1, hf]
      simp only [Tr.eqb]
      exact eqFields_sound (f := eqSh P d) (fun t s x y a b => eqIn_sound d t s x y a b) h.2 hx hy (p := []) (q := []) rfl rfl rfl rfl h1 h2
    · rename_i n el m' s hu
      simp only [Bool.and_eq_true, Bool.not_eq_true'] at h
      obtain ⟨⟨⟨h1, h2⟩, h3⟩, h4⟩ := h
      obtain rfl := beq_eq h1
      cases x <;> simp only [Tr.fits, Bool.and_eq_true, Bool.false_eq_true] at hx
      cases y <;> simp only [Tr.fits, Bool.and_eq_true, Bool.false_eq_true] at hy
      rename_i n1 xs n2 ys
      obtain rfl := beq_eq hx.1
      obtain rfl := beq_eq hy.1
      simp only [TV, Tr.isAgg, Tr.rel] at hxa hyb
      obtain ⟨cs, rfl, l1, o1⟩ := hxa
      obtain ⟨ds, rfl, l2, o2⟩ := hyb
      have hinfo : ∃ i, P.info? el = some i ∧ i.size = 1 := by
        unfold tyOK at h2
        split at h2
        · rename_i dd i _ hi; simp at h2; exact ⟨i, hi, h2.2⟩
        · cases h2
      obtain ⟨i, hi, hi1⟩ := hinfo
      have hc1 : P.cellsOf el = 1 := by simp [Program.cellsOf, hi, hi1]
      rw [← Nat.add_assoc, run_equalIn_array w _ cs ds hu hi, hc1]
      simp only [Tr.eqb]
      have key : ∀ (k i : Nat), i + k = n2 → (Op.eqItems (D0 + d) el 1 cs ds (List.range' i k)).run P w = .ok (Tr.eqbs (xs.drop i) (ys.drop i)) w := by
        intro k
        induction k with
        | zero => intro i hi; rw [List.drop_eq_nil_of_le (by omega), List.drop_eq_nil_of_le (by omega)]; simp [Op.eqItems, Tr.eqbs]
        | succ k ihk =>
          intro i hik
          have gx : xs[i]? = some (xs[i]'(by omega)) := List.getElem?_eq_getElem _
          have gy : ys[i]? = some (ys[i]'(by omega)) := List.getElem?_eq_getElem _
          generalize xs[i]'(by omega) = u at gx
          generalize ys[i]'(by omega) = v at gy
          obtain ⟨cu, c1, c2, c3⟩ := Tr.ones_get o1 gx
          obtain ⟨cv, d1, d2, d3⟩ := Tr.ones_get o2 gy
          have fu := fitsa_get hx.2 gx
          have fv := fitsa_get hy.2 gy
          have su : u.sz = 1 := by cases u <;> first | rfl | simp [Tr.isAgg] at c2
          have sv : v.sz = 1 := by cases v <;> first | rfl | simp [Tr.isAgg] at d2
          rw [h3] at h2
          obtain ⟨pa, q1, q2⟩ := part_sound (w := w) (P := P) (t := el) (cs := cs) (off := i) (Sub.one c1) c3 (by rw [c2, su]; exact h2)
          obtain ⟨pb, r1, r2⟩ := part_sound (w := w) (P := P) (t := el) (cs := ds) (off := i) (Sub.one d1) d3 (by rw [d2, sv]; exact h2)
          rw [List.range'_succ]
          simp only [Op.eqItems, Nat.mul_one, Sem.run_bind, q1, r1, Result.andThen_ok, eqIn_sound d el s u v pa pb h4 fu fv q2 r2, eqbs_drop gx gy]
          cases u.eqb v with
          | true => simpa using ihk (i + 1) (by omega)
          | false => simp
      have := key n2 0 (by omega)
      rw [List.range_eq_range']; simpa using this
    · cases h

theorem eqGuard_agg {op : BinOp} {t : TypeId} {x y : Operand} {P : Program} {cs ds : Array Value} {w : World} (h : P.eqGuardType P.depth t = false) : (eqGuard op t x y (.agg cs) (.agg ds)).run P w = .ok () w := by
  unfold eqGuard; split <;> simp [h]

theorem TV_of_val {e : Env} {x : Tr} {c : Value} (h : AV.val e (.t x) c) : TV e.ro x c := by
  simp only [AV.val] at h
  unfold TV
  cases hx : x.isAgg <;> rw [hx] at h <;> exact h

theorem op_eqs {op : BinOp} {neg : Bool} {sh : Sh} {t u : TypeId} {x y : Opd} {x' y' : Operand} (hx : chkOpd X.G x x' = true) (hy : chkOpd X.G y y' = true) (hop : op = if neg then .neq else .eql) (hs : eqSh X.P 100 t sh = true) (ha : sh.isAgg = true) (hg : X.P.eqGuardType X.P.depth t = false) :
    OpS0 X (.binOp op t x' y' u) (.eqs neg sh x y) := by
  intro o ho e H w fr a Q k hr hf hz
  have hxv := chkOpd_val hr hf hx
  have hyv := chkOpd_val hr hf hy
  simp only [opT, evK_eq] at hz
  split at hz
  · rename_i p q hxa hya
    rw [hxa] at hxv; rw [hya] at hyv
    obtain ⟨hfit, hz⟩ := hz
    simp only [Bool.and_eq_true] at hfit
    have tx := TV_of_val hxv
    have ty := TV_of_val hyv
    have key := eqIn_sound (P := X.P) (w := w) (D0 := 9900) 100 t sh p q _ _ hs hfit.1 hfit.2 tx ty
    have hpa : p.isAgg = true := by rw [(fits_sz hfit.1).2, ha]
    have hqa : q.isAgg = true := by rw [(fits_sz hfit.2).2, ha]
    simp only [TV, hpa] at tx
    simp only [TV, hqa] at ty
    obtain ⟨cs, ex, _⟩ := tx
    obtain ⟨ds, ey, _⟩ := ty
    have key : (Op.equal t (a.eval x') (a.eval y')).run X.P w = .ok (p.eqb q) w := key
    rw [ex, ey] at key
    rw [execOp_bin ho a.eval w (c := .bool (nb neg (p.eqb q))) (by rw [ex, ey]; exact eqGuard_agg hg) (by
      rw [ex, ey]; subst hop; cases neg <;> simp [binOp, key, Result.andThen, nb])]
    exact Out.same hr (mk_bool _ _) hz
  · exact hz.elim
end Stk
end

section
/- The framework, part M: maps: looked up, stored into, deleted from. -/
set_option linter.unusedSimpArgs false
namespace Stk
open Go
variable {X : Cx} {Q : Ex → Fr → Hp → Prop} {e : Env} {H : Hp} {w : World}

theorem toList_inj {a b : ByteArray} (h : a.toList = b.toList) : a = b := by
  rw [ByteArray.toList_eq, ByteArray.toList_eq] at h
  exact ByteArray.ext (Array.toList_inj.mp h)

mutual
theorem eqb_eq : ∀ {x y : Tr} {s : Sh}, x.fits s = true → y.fits s = true → x.eqb y = true → x = y
  | .bool _, y, s, hx, hy, h => by cases y <;> simp [Tr.eqb] at h; subst h; rfl
  | .int _ _, y, s, hx, hy, h => by
    cases y <;> simp [Tr.eqb] at h
    cases s <;> simp [Tr.fits] at hx hy
    obtain rfl := kindEq_eq hx
    obtain rfl := kindEq_eq hy
    subst h; rfl
  | .str _, y, s, hx, hy, h => by
    cases y <;> simp [Tr.eqb] at h
    rw [toList_inj h]
  | .nilp, y, s, h, _, _ => by cases s <;> simp [Tr.fits] at h
  | .nilm, y, s, h, _, _ => by cases s <;> simp [Tr.fits] at h
  | .nilf, y, s, h, _, _ => by cases s <;> simp [Tr.fits] at h
  | .nili, y, s, h, _, _ => by cases s <;> simp [Tr.fits] at h
  | .sl _ _ _, y, s, h, _, _ => by cases s <;> simp [Tr.fits] at h
  | .agg xs, y, s, hx, hy, h => by
    cases y <;> simp [Tr.eqb] at h
    cases s <;> simp [Tr.fits] at hx hy
    rw [eqbs_eq hx hy h]
  | .arr n xs, y, s, hx, hy, h => by
    cases y <;> simp [Tr.eqb] at h
    cases s <;> simp only [Tr.fits, Bool.and_eq_true, Bool.false_eq_true] at hx hy
    rw [eqbsa_eq hx.2 hy.2 h, beq_eq hx.1, beq_eq hy.1]
theorem eqbs_eq : ∀ {xs ys : List Tr} {ss : List Sh}, Tr.fitss xs ss = true → Tr.fitss ys ss = true → Tr.eqbs xs ys = true → xs = ys
  | [], ys, ss, hx, hy, h => by cases ys <;> simp [Tr.eqbs] at h; rfl
  | x :: xs, ys, ss, hx, hy, h => by
    cases ys <;> simp [Tr.eqbs] at h
    cases ss <;> simp [Tr.fitss] at hx hy
    rw [eqb_eq hx.1 hy.1 h.1, eqbs_eq hx.2 hy.2 h.2]
theorem eqbsa_eq : ∀ {xs ys : List Tr} {s : Sh}, Tr.fitsa xs s = true → Tr.fitsa ys s = true → Tr.eqbs xs ys = true → xs = ys
  | [], ys, ss, hx, hy, h => by cases ys <;> simp [Tr.eqbs] at h; rfl
  | x :: xs, ys, ss, hx, hy, h => by
    cases ys <;> simp [Tr.eqbs] at h
    simp only [Tr.fitsa, Bool.and_eq_true] at hx hy
    rw [eqb_eq hx.1 hy.1 h.1, eqbsa_eq hx.2 hy.2 h.2]
end

mutual
theorem fits_det {m : Nat → Option (List Value)} : ∀ {x : Tr} {s : Sh} {a b : List Value}, x.fits s = true → x.rel m a → x.rel m b → a = b ∧ ∀ c ∈ a, ∀ n, Instr.sameBits n c c = true
  | .bool _, s, a, b, h, ha, hb => by simp only [Tr.rel] at ha hb; subst ha hb; simp [Instr.sameBits]
  | .int _ _, s, a, b, h, ha, hb => by simp only [Tr.rel] at ha hb; subst ha hb; simp [Instr.sameBits]
  | .str _, s, a, b, h, ha, hb => by simp only [Tr.rel] at ha hb; subst ha hb; simp [Instr.sameBits, MapKept.bytes_beq]
  | .nilp, s, a, b, h, _, _ => by cases s <;> simp [Tr.fits] at h
  | .nilm, s, a, b, h, _, _ => by cases s <;> simp [Tr.fits] at h
  | .nilf, s, a, b, h, _, _ => by cases s <;> simp [Tr.fits] at h
  | .nili, s, a, b, h, _, _ => by cases s <;> simp [Tr.fits] at h
  | .sl _ _ _, s, a, b, h, _, _ => by cases s <;> simp [Tr.fits] at h
  | .agg xs, s, a, b, h, ha, hb => by
    cases s <;> simp [Tr.fits] at h
    simp only [Tr.rel] at ha hb
    exact fitss_det h ha hb
  | .arr n xs, s, a, b, h, ha, hb => by
    cases s <;> simp only [Tr.fits, Bool.and_eq_true, Bool.false_eq_true] at h
    simp only [Tr.rel] at ha hb
    exact fitsa_det h.2 ha.2 hb.2
theorem fitss_det {m : Nat → Option (List Value)} : ∀ {xs : List Tr} {ss : List Sh} {a b : List Value}, Tr.fitss xs ss = true → Tr.rels m xs a → Tr.rels m xs b → a = b ∧ ∀ c ∈ a, ∀ n, Instr.sameBits n c c = true
  | [], ss, a, b, h, ha, hb => by simp only [Tr.rels] at ha hb; subst ha hb; simp
  | x :: xs, ss, a, b, h, ha, hb => by
    cases ss <;> simp [Tr.fitss] at h
    simp only [Tr.rels] at ha hb
    obtain ⟨a1, a2, rfl, h1, h2⟩ := ha
    obtain ⟨b1, b2, rfl, g1, g2⟩ := hb
    obtain ⟨e1, s1⟩ := fits_det h.1 h1 g1
    obtain ⟨e2, s2⟩ := fitss_det h.2 h2 g2
    refine ⟨by rw [e1, e2], fun c hc => ?_⟩
    rcases List.mem_append.1 hc with hc | hc
    · exact s1 c hc
    · exact s2 c hc
theorem fitsa_det {m : Nat → Option (List Value)} : ∀ {xs : List Tr} {s : Sh} {a b : List Value}, Tr.fitsa xs s = true → Tr.ones m xs a → Tr.ones m xs b → a = b ∧ ∀ c ∈ a, ∀ n, Instr.sameBits n c c = true
  | [], s, a, b, h, ha, hb => by simp only [Tr.ones] at ha hb; subst ha hb; simp
  | x :: xs, s, a, b, h, ha, hb => by
    simp only [Tr.fitsa, Bool.and_eq_true] at h
    simp only [Tr.ones] at ha hb
    obtain ⟨a1, a2, rfl, _, h1, h2⟩ := ha
    obtain ⟨b1, b2, rfl, _, g1, g2⟩ := hb
    obtain ⟨e1, s1⟩ := fits_det h.1 h1 g1
    obtain ⟨e2, s2⟩ := fitsa_det h.2 h2 g2
    simp only [List.cons.injEq, and_true] at e1
    refine ⟨by rw [e1, e2], fun c hc => ?_⟩
    rcases List.mem_cons.1 hc with rfl | hc
    · exact s1 _ (by simp)
    · exact s2 c hc
end

theorem TV_det {m : Nat → Option (List Value)} {x : Tr} {s : Sh} {a b : Value} (h : x.fits s = true) (ha : TV m x a) (hb : TV m x b) : a = b ∧ Instr.sameBits 10000 a a = true := by
  unfold TV at ha hb
  cases hx : x.isAgg <;> rw [hx] at ha hb
  · obtain ⟨h1, h2⟩ := fits_det h ha hb
    simp only [List.cons.injEq, and_true] at h1
    exact ⟨h1, h2 _ (by simp) _⟩
  · obtain ⟨cs, rfl, h1⟩ := ha
    obtain ⟨ds, rfl, h2⟩ := hb
    obtain ⟨h3, h4⟩ := fits_det h h1 h2
    refine ⟨by rw [Array.toList_inj.1 h3], ?_⟩
    simp only [Instr.sameBits, beq_self_eq_true, Bool.true_and, List.all_eq_true]
    intro p hp
    obtain ⟨c, d⟩ := p
    have h5 : ∀ (l : List Value) (c d : Value), (c, d) ∈ l.zip l → c = d ∧ c ∈ l := by
      intro l
      induction l with
      | nil => simp
      | cons y ys ih =>
        intro c d h
        simp only [List.zip_cons_cons, List.mem_cons, Prod.mk.injEq] at h
        rcases h with ⟨rfl, rfl⟩ | h
        · simp
        · obtain ⟨h1, h2⟩ := ih c d h; exact ⟨h1, by simp [h2]⟩
    obtain ⟨rfl, hc⟩ := h5 _ _ _ hp
    exact h4 c hc 9999

theorem modify_mid {α : Type} (f : α → α) : ∀ (a : List α) (x : α) (b : List α), (a ++ x :: b).modify a.length f = a ++ f x :: b
  | [], _, _ => rfl
  | y :: a, x, b => by
    rw [List.cons_append, List.length_cons, List.modify_succ_cons, modify_mid f a x b]; rfl

theorem mapRel_length {m : Nat → Option (List Value)} : ∀ {es : List (Tr × Tr)} {l : List MapEntry}, mapRel m es l → l.length = es.length
  | [], l, h => by simp only [mapRel] at h; simp [h]
  | (x, v) :: r, l, h => by
    simp only [mapRel] at h
    obtain ⟨me, es', rfl, _, _, h⟩ := h
    simp [mapRel_length h]

theorem Births.push {l : List MapEntry} {clock : Nat} (h : Births l clock) {x : MapEntry} (hx : x.born = clock) : Births (l ++ [x]) (clock + 1) := by
  refine ⟨?_, fun y hy => ?_⟩
  · rw [List.map_append, List.nodup_append]
    refine ⟨h.1, by simp, ?_⟩
    intro a ha b hb
    simp only [List.map_cons, List.map_nil, List.mem_singleton] at hb
    subst hb
    rintro rfl
    obtain ⟨y, hy, hyb⟩ := List.mem_map.1 ha
    have := h.2 y hy
    omega
  · rcases List.mem_append.1 hy with hy | hy
    · have := h.2 y hy; omega
    · rw [List.mem_singleton.1 hy]; omega
theorem Births.modify {l1 l2 : List MapEntry} {me : MapEntry} {clock : Nat} {k v : Value} (h : Births (l1 ++ me :: l2) clock) : Births (l1 ++ { me with key := k, val := v } :: l2) clock := by
  obtain ⟨h1, h2⟩ := h
  refine ⟨by simpa using h1, fun y hy => ?_⟩
  rcases List.mem_append.1 hy with hy | hy
  · exact h2 y (by simp [hy])
  · rcases List.mem_cons.1 hy with rfl | hy
    · exact h2 me (by simp)
    · exact h2 y (by simp [hy])
theorem Births.erase {l1 l2 : List MapEntry} {me : MapEntry} {clock : Nat} (h : Births (l1 ++ me :: l2) clock) : Births (l1 ++ l2) clock :=
  ⟨h.1.sublist (((List.Sublist.refl l1).append (List.sublist_cons_self me l2)).map _), fun y hy => h.2 y (by rcases List.mem_append.1 hy with hy | hy <;> simp [hy])⟩

theorem run_stays {P : Program} {m : Nat → Option (List Value)} {x : Tr} {s : Sh} {a b : Value} (h : x.fits s = true) (ha : TV m x a) (hb : TV m x b) : (Instr.keyThatStays a b).run P w = .ok b w := by
  obtain ⟨rfl, h2⟩ := TV_det h ha hb
  simp [Instr.keyThatStays, h2]

/-! ### A key is looked at -/
theorem checkFields_sound {P : Program} {m : Nat → Option (List Value)} {w : World} {D : Nat} {em : Bool} {f : TypeId → Sh → Bool} {xa : Array Value}
    (ih : ∀ t s x a, f t s = true → x.fits s = true → TV m x a → (Instr.checkKey em D t a).run P w = .ok () w) :
    ∀ {fs : List Field} {ss : List Sh} {off : Nat} {xs : List Tr} {p cs : List Value}, eqFs P f off fs ss = true → Tr.fitss xs ss = true →
      xa.toList = p ++ cs → p.length = off → Tr.rels m xs cs →
      (forIn fs PUnit.unit (fun (fl : Field) (_ : PUnit) => do
        if fl.name ≠ "_" then do
          Instr.checkKey em D fl.type (← part fl.type xa fl.offset)
          pure (ForInStep.yield PUnit.unit)
        else pure (ForInStep.yield PUnit.unit)) : Sem PUnit).run P w = .ok () w
  | [], [], off, xs, p, cs, _, hx, _, _, _ => by simp
  | [], s :: ss, off, xs, p, cs, h, _, _, _, _ => by simp [eqFs] at h
  | fl :: fs, [], off, xs, p, cs, h, _, _, _, _ => by simp [eqFs] at h
  | fl :: fs, s :: ss, off, xs, p, cs, h, hx, e1, e2, hr => by
    cases xs with
    | nil => simp [Tr.fitss] at hx
    | cons x xs =>
        simp only [Tr.fitss, Bool.and_eq_true] at hx
        simp only [eqFs, Bool.and_eq_true, bne_iff_ne, ne_eq] at h
        obtain ⟨⟨⟨⟨k1, k2⟩, k3⟩, k4⟩, k5⟩ := h
        have k2 := beq_eq k2
        simp only [Tr.rels] at hr
        obtain ⟨a, b, rfl, h1, h2⟩ := hr
        obtain ⟨sx, gx⟩ := fits_sz hx.1
        obtain ⟨u, hu, hu2⟩ := part_sound (w := w) (P := P) (t := fl.type) (cs := xa) (off := off) ⟨p, b, e1, e2⟩ h1 (by rw [gx, sx]; exact k3)
        have hl := Tr.rel_length h1
        have rest := checkFields_sound ih (p := p ++ a) k5 hx.2 (by rw [e1, List.append_assoc]) (by simp [e2, hl, sx]) h2
        simp only [List.forIn_cons, Sem.run_bind, ne_eq, k1, not_false_eq_true, if_true, k2, hu, Result.andThen_ok, ih _ _ _ _ k4 hx.1 hu2, Sem.run_pure]
        exact rest

theorem check_sound {P : Program} {m : Nat → Option (List Value)} {w : World} {D0 : Nat} {em : Bool} : ∀ (d : Nat) (t : TypeId) (sh : Sh) (x : Tr) (a : Value), eqSh P d t sh = true → x.fits sh = true → TV m x a →
    (Instr.checkKey em (D0 + d) t a).run P w = .ok () w
  | 0, t, sh, x, a, h, _, _ => by simp [eqSh] at h
  | d + 1, t, sh, x, a, h, hx, hxa => by
    unfold eqSh at h
    split at h
    · rename_i hu
      cases x <;> simp [Tr.fits] at hx
      simp only [TV, Tr.isAgg, Tr.rel, List.cons.injEq, and_true] at hxa
      subst hxa
      rw [← Nat.add_assoc]; simp [Instr.checkKey, run_underlying hu, Result.andThen]
    · rename_i k j hu
      cases x <;> simp [Tr.fits] at hx
      simp only [TV, Tr.isAgg, Tr.rel, List.cons.injEq, and_true] at hxa
      subst hxa
      rw [← Nat.add_assoc]; simp [Instr.checkKey, run_underlying hu, Result.andThen]
    · rename_i hu
      cases x <;> simp [Tr.fits] at hx
      simp only [TV, Tr.isAgg, Tr.rel, List.cons.injEq, and_true] at hxa
      subst hxa
      rw [← Nat.add_assoc]; simp [Instr.checkKey, run_underlying hu, Result.andThen]
    · rename_i fs ss hu
      simp only [Bool.and_eq_true, Bool.not_eq_true'] at h
      cases x <;> simp [Tr.fits] at hx
      simp only [TV, Tr.isAgg, Tr.rel] at hxa
      obtain ⟨cs, rfl, h1⟩ := hxa
      rw [← Nat.add_assoc, Instr.checkKey]
      simp only [Sem.run_bind, run_underlying hu, Result.andThen_ok]
      have := checkFields_sound (P := P) (w := w) (D := D0 + d) (em := em) (f := eqSh P d) (xa := cs) (fun t s x a => check_sound d t s x a) h.2 hx (p := []) rfl rfl h1
      rw [← Array.forIn_toList, this]
      simp
    · rename_i n el m' s hu
      simp only [Bool.and_eq_true, Bool.not_eq_true'] at h
      obtain ⟨⟨⟨h1, h2⟩, h3⟩, h4⟩ := h
      obtain rfl := beq_eq h1
      cases x <;> simp only [Tr.fits, Bool.and_eq_true, Bool.false_eq_true] at hx
      rename_i n1 xs
      obtain rfl := beq_eq hx.1
      simp only [TV, Tr.isAgg, Tr.rel] at hxa
      obtain ⟨cs, rfl, l1, o1⟩ := hxa
      have hinfo : ∃ i, P.info? el = some i ∧ i.size = 1 := by
        unfold tyOK at h2
        split at h2
        · rename_i dd i _ hi; simp at h2; exact ⟨i, hi, h2.2⟩
        · cases h2
      obtain ⟨i, hi, hi1⟩ := hinfo
      rw [← Nat.add_assoc, Instr.checkKey]
      simp only [Sem.run_bind, run_underlying hu, Result.andThen_ok]
      simp only [Std.Legacy.Range.forIn_eq_forIn_range', Std.Legacy.Range.size, Nat.sub_zero, Nat.add_one_sub_one, Nat.div_one]
      have key : ∀ (is : List Nat), (∀ j ∈ is, j < n1) → (forIn is PUnit.unit (fun (i : Nat) (_ : PUnit) => do
          let n ← Go.sizeOf el
          let v ← part el cs (i * n)
          Instr.checkKey em (D0 + d) el v
          pure (ForInStep.yield PUnit.unit)) : Sem PUnit).run P w = .ok () w := by
        intro is
        induction is with
        | nil => intro _; simp
        | cons j is ihk =>
          intro hj
          have hjl : j < xs.length := by rw [l1]; exact hj j (by simp)
          have gx : xs[j]? = some (xs[j]) := List.getElem?_eq_getElem _
          generalize xs[j] = u at gx
          obtain ⟨cu, c1, c2, c3⟩ := Tr.ones_get o1 gx
          have fu := fitsa_get hx.2 gx
          have su : u.sz = 1 := by cases u <;> first | rfl | simp [Tr.isAgg] at c2
          rw [h3] at h2
          obtain ⟨pa, q1, q2⟩ := part_sound (w := w) (P := P) (t := el) (cs := cs) (off := j) (Sub.one c1) c3 (by rw [c2, su]; exact h2)
          simp only [List.forIn_cons, Sem.run_bind, run_sizeOf (n := 1) (by rw [hi]; simp [hi1]) w, Nat.mul_one, Result.andThen_ok, q1, check_sound d el s u pa h4 fu q2, Sem.run_pure]
          exact ihk (fun y hy => hj y (by simp [hy]))
      rw [key (List.range' 0 n1) (fun j hj => by simp at hj; omega)]
      simp
    · cases h

/-! ### A key is found -/
theorem mapRel_cons {m : Nat → Option (List Value)} {x v : Tr} {r : List (Tr × Tr)} {es : List MapEntry} : mapRel m ((x, v) :: r) es ↔ ∃ me es', es = me :: es' ∧ TV m x me.key ∧ TV m v me.val ∧ mapRel m r es' := by
  simp only [mapRel, TV]; exact Iff.rfl
theorem mapRel_app {m : Nat → Option (List Value)} : ∀ {xs ys : List (Tr × Tr)} {l : List MapEntry}, mapRel m (xs ++ ys) l ↔ ∃ a b, l = a ++ b ∧ a.length = xs.length ∧ mapRel m xs a ∧ mapRel m ys b
  | [], ys, l => by
    constructor
    · intro h; exact ⟨[], l, rfl, rfl, by simp [mapRel], h⟩
    · rintro ⟨a, b, rfl, ha, h1, h2⟩; simp at ha; subst ha; exact h2
  | (x, v) :: xs, ys, l => by
    rw [List.cons_append, mapRel_cons]
    constructor
    · rintro ⟨me, es', rfl, h1, h2, h3⟩
      obtain ⟨a, b, rfl, hl, h4, h5⟩ := mapRel_app.1 h3
      exact ⟨me :: a, b, rfl, by simp [hl], mapRel_cons.2 ⟨me, a, rfl, h1, h2, h4⟩, h5⟩
    · rintro ⟨a, b, rfl, hl, h4, h5⟩
      obtain ⟨me, a', rfl, h1, h2, h3⟩ := mapRel_cons.1 h4
      exact ⟨me, a' ++ b, rfl, h1, h2, mapRel_app.2 ⟨a', b, rfl, by simpa using hl, h3, h5⟩⟩

theorem mfind_cases (x : Tr) : ∀ (es : List (Tr × Tr)),
    ((∀ p ∈ es, x.eqb p.1 = false) ∧ mfind x es = none ∧ (∀ v, mput x v es = es ++ [(x, v)]) ∧ mdel x es = es) ∨
    ∃ pre q u post, es = pre ++ (q, u) :: post ∧ (∀ p ∈ pre, x.eqb p.1 = false) ∧ x.eqb q = true ∧ mfind x es = some u ∧ (∀ v, mput x v es = pre ++ (x, v) :: post) ∧ mdel x es = pre ++ post
  | [] => .inl ⟨by simp, rfl, fun _ => rfl, rfl⟩
  | (a, b) :: r => by
    cases h : x.eqb a with
    | true => exact .inr ⟨[], a, b, r, rfl, by simp, h, by simp [mfind, h], fun v => by simp [mput, h], by simp [mdel, h]⟩
    | false =>
      rcases mfind_cases x r with ⟨h1, h2, h3, h4⟩ | ⟨pre, q, u, post, rfl, h1, h2, h3, h4, h5⟩
      · exact .inl ⟨by simpa [h] using h1, by simp [mfind, h, h2], fun v => by simp [mput, h, h3], by simp [mdel, h, h4]⟩
      · exact .inr ⟨(a, b) :: pre, q, u, post, rfl, by simpa [h] using h1, h2, by simp [mfind, h, h3], fun v => by simp [mput, h, h4], by simp [mdel, h, h5]⟩

theorem sameNow_sound {m : Nat → Option (List Value)} {d : TypeDesc} {x y : Tr} {s : Sh} {a b : Value} (hx : x.fits s = true) (hy : y.fits s = true) (ha : TV m x a) (hb : TV m y b) :
    Instr.sameNow d a b = none ∨ Instr.sameNow d a b = some (x.eqb y) := by
  cases x
  case bool p =>
    cases s <;> simp [Tr.fits] at hx
    cases y <;> simp [Tr.fits] at hy
    simp only [TV, Tr.isAgg, Tr.rel, List.cons.injEq, and_true] at ha hb
    subst ha hb
    cases d <;> simp [Instr.sameNow, Tr.eqb]
  case int k p =>
    cases s <;> simp [Tr.fits] at hx
    cases y <;> simp [Tr.fits] at hy
    simp only [TV, Tr.isAgg, Tr.rel, List.cons.injEq, and_true] at ha hb
    subst ha hb
    obtain rfl := kindEq_eq hx
    obtain rfl := kindEq_eq hy
    cases d <;> simp [Instr.sameNow, Tr.eqb]
  case str p =>
    cases s <;> simp [Tr.fits] at hx
    cases y <;> simp [Tr.fits] at hy
    simp only [TV, Tr.isAgg, Tr.rel, List.cons.injEq, and_true] at ha hb
    subst ha hb
    cases d <;> simp only [Instr.sameNow, Tr.eqb, true_or]
    right
    rename_i q
    congr 1
    rw [Bool.eq_iff_iff, MapKept.bytes_beq]
    simp only [beq_iff_eq]
    exact ⟨fun h => by rw [h], toList_inj⟩
  case agg xs =>
    simp only [TV, Tr.isAgg] at ha
    obtain ⟨cs, rfl, _⟩ := ha
    left; cases d <;> simp [Instr.sameNow]
  case arr n xs =>
    simp only [TV, Tr.isAgg] at ha
    obtain ⟨cs, rfl, _⟩ := ha
    left; cases d <;> simp [Instr.sameNow]
  all_goals (cases s <;> simp [Tr.fits] at hx)

theorem findNow_no {m : Nat → Option (List Value)} {d : TypeDesc} {x : Tr} {s : Sh} {a : Value} (hx : x.fits s = true) (ha : TV m x a) : ∀ {es : List (Tr × Tr)} {l : List MapEntry} (i : Nat), mapRel m es l → (∀ p ∈ es, p.1.fits s = true) → (∀ p ∈ es, x.eqb p.1 = false) →
    Instr.findNow d a l i = none ∨ Instr.findNow d a l i = some none
  | [], l, i, h, _, _ => by simp only [mapRel] at h; subst h; simp [Instr.findNow]
  | (y, v) :: r, l, i, h, hf, hn => by
    obtain ⟨me, l', rfl, h1, h2, h3⟩ := mapRel_cons.1 h
    have := sameNow_sound (d := d) hx (hf (y, v) (by simp)) ha h1
    rw [hn (y, v) (by simp)] at this
    rcases this with h | h
    · simp [Instr.findNow, h]
    · simp only [Instr.findNow, h]
      exact findNow_no hx ha (i + 1) h3 (fun p hp => hf p (by simp [hp])) (fun p hp => hn p (by simp [hp]))
theorem findNow_yes {m : Nat → Option (List Value)} {d : TypeDesc} {x : Tr} {s : Sh} {a : Value} (hx : x.fits s = true) (ha : TV m x a) {q : Tr} (hq : q.fits s = true) (hqe : x.eqb q = true) {me : MapEntry} (hme : TV m q me.key) {rest : List MapEntry} :
    ∀ {es : List (Tr × Tr)} {l : List MapEntry} (i : Nat), mapRel m es l → (∀ p ∈ es, p.1.fits s = true) → (∀ p ∈ es, x.eqb p.1 = false) →
    Instr.findNow d a (l ++ me :: rest) i = none ∨ Instr.findNow d a (l ++ me :: rest) i = some (some (i + l.length, me.val))
  | [], l, i, h, _, _ => by
    simp only [mapRel] at h; subst h
    have := sameNow_sound (d := d) hx hq ha hme
    rw [hqe] at this
    rcases this with h | h <;> simp [Instr.findNow, h]
  | (y, v) :: r, l, i, h, hf, hn => by
    obtain ⟨me', l', rfl, h1, h2, h3⟩ := mapRel_cons.1 h
    have := sameNow_sound (d := d) hx (hf (y, v) (by simp)) ha h1
    rw [hn (y, v) (by simp)] at this
    rcases this with h | h
    · simp [Instr.findNow, h]
    · simp only [List.cons_append, Instr.findNow, h]
      have := findNow_yes hx ha hq hqe hme (d := d) (rest := rest) (i + 1) h3 (fun p hp => hf p (by simp [hp])) (fun p hp => hn p (by simp [hp]))
      rw [show i + (me' :: l').length = i + 1 + l'.length from by simp; omega]
      exact this

theorem findAsk_no {P : Program} {m : Nat → Option (List Value)} {t : TypeId} {x : Tr} {s : Sh} {a : Value} (hs : eqSh P 100 t s = true) (hx : x.fits s = true) (ha : TV m x a) : ∀ {es : List (Tr × Tr)} {l : List MapEntry} (i : Nat), mapRel m es l → (∀ p ∈ es, p.1.fits s = true) → (∀ p ∈ es, x.eqb p.1 = false) →
    (Instr.findAsking t a l i).run P w = .ok none w
  | [], l, i, h, _, _ => by simp only [mapRel] at h; subst h; simp [Instr.findAsking]
  | (y, v) :: r, l, i, h, hf, hn => by
    obtain ⟨me, l', rfl, h1, h2, h3⟩ := mapRel_cons.1 h
    have key : (Op.equal t a me.key).run P w = .ok (x.eqb y) w := eqIn_sound (P := P) (w := w) (D0 := 9900) 100 t s x y _ _ hs hx (hf (y, v) (by simp)) ha h1
    rw [hn (y, v) (by simp)] at key
    simp only [Instr.findAsking, Sem.run_bind, key, Result.andThen_ok, Bool.false_eq_true, if_false]
    exact findAsk_no hs hx ha (i + 1) h3 (fun p hp => hf p (by simp [hp])) (fun p hp => hn p (by simp [hp]))
theorem findAsk_yes {P : Program} {m : Nat → Option (List Value)} {t : TypeId} {x : Tr} {s : Sh} {a : Value} (hs : eqSh P 100 t s = true) (hx : x.fits s = true) (ha : TV m x a) {q : Tr} (hq : q.fits s = true) (hqe : x.eqb q = true) {me : MapEntry} (hme : TV m q me.key) {rest : List MapEntry} :
    ∀ {es : List (Tr × Tr)} {l : List MapEntry} (i : Nat), mapRel m es l → (∀ p ∈ es, p.1.fits s = true) → (∀ p ∈ es, x.eqb p.1 = false) →
    (Instr.findAsking t a (l ++ me :: rest) i).run P w = .ok (some (i + l.length, me.val)) w
  | [], l, i, h, _, _ => by
    simp only [mapRel] at h; subst h
    have key : (Op.equal t a me.key).run P w = .ok (x.eqb q) w := eqIn_sound (P := P) (w := w) (D0 := 9900) 100 t s x q _ _ hs hx hq ha hme
    rw [hqe] at key
    simp [Instr.findAsking, key, Result.andThen]
  | (y, v) :: r, l, i, h, hf, hn => by
    obtain ⟨me', l', rfl, h1, h2, h3⟩ := mapRel_cons.1 h
    have key : (Op.equal t a me'.key).run P w = .ok (x.eqb y) w := eqIn_sound (P := P) (w := w) (D0 := 9900) 100 t s x y _ _ hs hx (hf (y, v) (by simp)) ha h1
    rw [hn (y, v) (by simp)] at key
    simp only [List.cons_append, Instr.findAsking, Sem.run_bind, key, Result.andThen_ok, Bool.false_eq_true, if_false]
    rw [show i + (me' :: l').length = i + 1 + l'.length from by simp; omega]
    exact findAsk_yes hs hx ha hq hqe hme (i + 1) h3 (fun p hp => hf p (by simp [hp])) (fun p hp => hn p (by simp [hp]))

/-- What a search gives. -/
theorem find_sound {P : Program} {m : Nat → Option (List Value)} {t : TypeId} {x : Tr} {s : Sh} {a : Value} (hs : eqSh P 100 t s = true) (hx : x.fits s = true) (ha : TV m x a) {es : List (Tr × Tr)} {l : List MapEntry} (h : mapRel m es l) (hf : ∀ p ∈ es, p.1.fits s = true) :
    ((Instr.findKey t a l).run P w = .ok none w ∧ mfind x es = none ∧ (∀ v, mput x v es = es ++ [(x, v)]) ∧ mdel x es = es) ∨
    ∃ pre u post l1 me l2, (Instr.findKey t a l).run P w = .ok (some (l1.length, me.val)) w ∧ l = l1 ++ me :: l2 ∧ mapRel m pre l1 ∧ mapRel m post l2 ∧ TV m x me.key ∧ TV m u me.val ∧
      mfind x es = some u ∧ (∀ v, mput x v es = pre ++ (x, v) :: post) ∧ mdel x es = pre ++ post := by
  have hu : ∃ d, P.underlying t = some d := by
    unfold eqSh at hs
    split at hs
    any_goals exact ⟨_, by assumption⟩
    cases hs
  obtain ⟨d, hd⟩ := hu
  rcases mfind_cases x es with ⟨h1, h2, h3, h4⟩ | ⟨pre, q, u, post, rfl, h1, h2, h3, h4, h5⟩
  · refine .inl ⟨?_, h2, h3, h4⟩
    rcases findNow_no (d := d) hx ha 0 h hf h1 with hn | hn
    · simp only [Instr.findKey, Sem.run_bind, run_underlying hd, Result.andThen_ok, hn]
      exact findAsk_no hs hx ha 0 h hf h1
    · simp only [Instr.findKey, Sem.run_bind, run_underlying hd, Result.andThen_ok, hn, Sem.run_pure]
  · obtain ⟨l1, l', rfl, hl, g1, g2⟩ := mapRel_app.1 h
    obtain ⟨me, l2, rfl, g3, g4, g5⟩ := mapRel_cons.1 g2
    have hq : q.fits s = true := hf (q, u) (by simp)
    have hfp : ∀ p ∈ pre, p.1.fits s = true := fun p hp => hf p (by simp [hp])
    obtain rfl := eqb_eq hx hq h2
    refine .inr ⟨pre, u, post, l1, me, l2, ?_, rfl, g1, g5, g3, g4, h3, h4, h5⟩
    rcases findNow_yes (d := d) hx ha hq h2 g3 (rest := l2) 0 g1 hfp h1 with hn | hn
    · simp only [Instr.findKey, Sem.run_bind, run_underlying hd, Result.andThen_ok, hn]
      simpa using findAsk_yes (w := w) hs hx ha hq h2 g3 (rest := l2) 0 g1 hfp h1
    · simp only [Instr.findKey, Sem.run_bind, run_underlying hd, Result.andThen_ok, hn, Sem.run_pure, Nat.zero_add]

theorem TV_val {e : Env} {x : Tr} {c : Value} (h : TV e.ro x c) : AV.val e (.t x) c := by
  unfold TV at h
  simp only [AV.val]
  cases hx : x.isAgg <;> rw [hx] at h <;> exact h

theorem zeroOK_TV {t : TypeId} {z : Tr} (h : zeroOK X.P t z = true) (m : Nat → Option (List Value)) : ∃ v, TV m z v ∧ ∀ w, (zeroValue t).run X.P w = .ok v w := by
  obtain ⟨v, i, h1, h2, _, h3, h4⟩ := zeroOK_run h m
  refine ⟨v, ?_, h4⟩
  unfold zeroOK at h
  rw [h1] at h
  simp only [h2, Bool.and_eq_true] at h
  have hk := h.2
  unfold TV
  cases hz : z.isAgg with
  | true =>
    rw [hz] at hk
    cases v <;> simp at hk
    exact ⟨_, rfl, by simpa [Value.cells] using h3⟩
  | false =>
    rw [hz] at hk
    cases v <;> first | (simp at hk; done) | (simpa [Value.cells] using h3)

theorem sat_asrt' {b : Bool} {k : T} (h : sat X Q (.asrt b k)) : b = true ∧ sat X Q k := h

theorem val_nilm {e : Env} {c : Value} (h : AV.val e (.t .nilm) c) : c = .map none := by
  simpa [AV.val, Tr.isAgg, Tr.rel] using h

theorem mk_okpair {e : Env} {x : Tr} {c : Value} {b : Bool} (h : TV e.ro x c) : AV.val e (.tup [.t x, .t (.bool b)]) (.tuple #[c, .bool b]) := by
  simp only [AV.val]
  refine ⟨_, rfl, ?_⟩
  simp only [AV.vals]
  exact ⟨_, _, rfl, TV_val h, _, _, rfl, mk_bool _ _, rfl⟩

theorem op_lookup {t kt et : TypeId} {ok : Bool} {z : Tr} {sh : Sh} {x y : Opd} {x' y' : Operand} (hx : chkOpd X.G x x' = true) (hy : chkOpd X.G y y' = true) (ht : X.P.underlying t = some (.map kt et)) (hs : eqSh X.P 100 kt sh = true) (hz : zeroOK X.P et z = true) :
    OpS0 X (.lookup t x' y' ok) (.lookup ok z sh x y) := by
  intro o ho e H w fr a Q k hr hf hk
  have hxv := chkOpd_val hr hf hx
  have hyv := chkOpd_val hr hf hy
  obtain ⟨zv, hz1, hz2⟩ := zeroOK_TV (X := X) hz e.ro
  simp only [opT, evK_eq] at hk
  split at hk
  · rename_i y1 hxa hya
    rw [hxa] at hxv; rw [hya] at hyv
    have hxv := val_nilm hxv
    obtain ⟨hfit, hk⟩ := hk
    have ty := TV_of_val hyv
    have hc := check_sound (P := X.P) (w := w) (D0 := 9900) (em := true) 100 kt sh y1 _ hs hfit ty
    have hr1 : (Instr.lookup t (a.eval x') (a.eval y') ok).run X.P w = .ok (if ok then .tuple #[zv, .bool false] else zv) w := by
      have hc : (Instr.checkKey true 10000 kt (a.eval y')).run X.P w = .ok () w := hc
      have hu : ∃ d, X.P.underlying kt = some d := by
        unfold eqSh at hs
        split at hs
        any_goals exact ⟨_, by assumption⟩
        cases hs
      obtain ⟨d, hd⟩ := hu
      simp [Instr.lookup, run_underlying ht, hxv, hc, Instr.findKey, run_underlying hd, Instr.findNow, hz2, Result.andThen]
    rw [show (execOp a.eval o).run X.P w = .ok (.value (if ok then .tuple #[zv, .bool false] else zv)) w from by simp only [execOp, ho]; exact run_v hr1]
    cases ok with
    | true => exact Out.same hr (mk_okpair hz1) hk
    | false => exact Out.same hr (TV_val hz1) hk
  · rename_i b y1 hxa hya
    rw [hxa] at hxv; rw [hya] at hyv
    simp only [AV.val, AV.leaf] at hxv
    obtain ⟨blk, esz, rc, n, hβ, hc⟩ := hxv
    obtain ⟨ob, hob, hk⟩ := sat_nthK hk
    have key : ∀ es : List (Tr × Tr), (∃ ents clock, w.heap[blk]? = some (.map ents clock) ∧ mapRel e.ro es ents.toList) → sat X Q (.asrt (y1.fits sh && es.all (fun p => p.1.fits sh)) (match (generalizing := false) ok with
        | true => k (.tup [.t ((mfind y1 es).getD z), .t (.bool (mfind y1 es).isSome)]) H
        | false => k (.t ((mfind y1 es).getD z)) H)) → Out0 X e H w Q k ((execOp a.eval o).run X.P w) := by
      rintro es ⟨ents, clock, hoo, hm⟩ hk
      obtain ⟨hfit, hk⟩ := hk
      simp only [Bool.and_eq_true, List.all_eq_true] at hfit
      have ty := TV_of_val hyv
      simp at hc
      have hck : (Instr.checkKey ents.isEmpty 10000 kt (a.eval y')).run X.P w = .ok () w := check_sound (P := X.P) (w := w) (D0 := 9900) 100 kt sh y1 _ hs hfit.1 ty
      rcases find_sound (w := w) hs hfit.1 ty hm hfit.2 with ⟨h1, h2, _, _⟩ | ⟨pre, u, post, l1, me, l2, h1, _, _, _, _, h6, h7, _, _⟩
      · have hr1 : (Instr.lookup t (a.eval x') (a.eval y') ok).run X.P w = .ok (if ok then .tuple #[zv, .bool false] else zv) w := by
          simp [Instr.lookup, run_underlying ht, hc, MapKept.run_getObj_map hoo, hck, h1, hz2, Result.andThen]
        rw [show (execOp a.eval o).run X.P w = .ok (.value (if ok then .tuple #[zv, .bool false] else zv)) w from by simp only [execOp, ho]; exact run_v hr1]
        rw [h2] at hk
        cases ok with
        | true => exact Out.same hr (mk_okpair hz1) hk
        | false => exact Out.same hr (TV_val hz1) hk
      · have hr1 : (Instr.lookup t (a.eval x') (a.eval y') ok).run X.P w = .ok (if ok then .tuple #[me.val, .bool true] else me.val) w := by
          simp [Instr.lookup, run_underlying ht, hc, MapKept.run_getObj_map hoo, hck, h1, Result.andThen]
        rw [show (execOp a.eval o).run X.P w = .ok (.value (if ok then .tuple #[me.val, .bool true] else me.val)) w from by simp only [execOp, ho]; exact run_v hr1]
        rw [h7] at hk
        cases ok with
        | true => exact Out.same hr (mk_okpair h6) hk
        | false => exact Out.same hr (TV_val h6) hk
    split at hk
    · obtain ⟨oo, hoo, hrel⟩ := hr.obj b _ hob (by simp) _ _ _ _ hβ
      obtain ⟨_, ents, clock, rfl, hm, _⟩ := hrel
      exact key _ ⟨ents, clock, hoo, hm⟩ hk
    · obtain ⟨oo, hoo, hrel⟩ := hr.obj b _ hob (by simp) _ _ _ _ hβ
      obtain ⟨_, ents, clock, rfl, hm, _⟩ := hrel
      exact key _ ⟨ents, clock, hoo, hm⟩ hk
    · exact hk.elim
  · exact hk.elim

theorem frzK_kind {H : Hp} {u : AV} {k : Tr → Hp → T} : frzK H u k = frzK H u (fun x H' => match x.isAgg == u.isAgg with | true => k x H' | false => .stuck "kind") := by
  cases u with
  | t x => simp [frzK, AV.isAgg]
  | sl b o p off len cap => 
    simp only [frzK]
    congr 1
  | agg xs => simp only [frzK]; rfl
  | _ => rfl

theorem frz_val (hr : Rel X.G e H w) {u : AV} {c : Value} (hv : AV.val e u c) {k : Tr → Hp → T} (h : sat X Q (frzK H u k)) :
    ∃ x e' H', sat X Q (k x H') ∧ Step X.G e H w e' H' w ∧ TV e'.ro x c := by
  have hsol : u.solid = true := by
    cases u <;> first | rfl | (simp only [frzK] at h; exact h.elim)
  have hvr := solid_rel hv hsol
  rw [frzK_kind] at h
  obtain ⟨x, e', H', h1, h2, h3⟩ := frz_sound hr hvr h
  refine ⟨x, e', H', ?_⟩
  split at h1
  · rename_i hk
    refine ⟨h1, h2, ?_⟩
    simp only [beq_iff_eq] at hk
    unfold TV
    cases hx : x.isAgg with
    | true =>
      rw [hx] at hk
      have hc : ∃ cs, c = .agg cs := by
        cases u with
        | agg xs => simp only [AV.val] at hv; obtain ⟨cs, rfl, _⟩ := hv; exact ⟨cs, rfl⟩
        | t x => simp only [AV.isAgg] at hk; simp only [AV.val, ← hk] at hv; obtain ⟨cs, rfl, _⟩ := hv; exact ⟨cs, rfl⟩
        | _ => simp [AV.isAgg] at hk
      obtain ⟨cs, rfl⟩ := hc
      exact ⟨cs, rfl, by simpa [Value.cells] using h3⟩
    | false =>
      rw [hx] at hk
      have hc : c.cells = #[c] := by
        cases u with
        | agg xs => simp [AV.isAgg] at hk
        | t y =>
          simp only [AV.isAgg] at hk
          simp only [AV.val, ← hk] at hv
          cases y <;> simp only [Tr.rel, List.cons.injEq, and_true] at hv <;> first | (subst hv; rfl) | (obtain ⟨_, _, rfl, _⟩ := hv; rfl) | (simp [Tr.isAgg] at hk)
        | sl b o p off len cap =>
          simp only [AV.val, AV.leaf, slRel] at hv
          rcases hv with ⟨_, _, _, _, rfl, _, base, hc⟩ | ⟨_, _, _, _, base, c', _, hc, _⟩
          · simp at hc; subst hc; rfl
          · simp at hc; subst hc; rfl
        | _ => simp [frzK] at h; exact h.elim
      rw [hc] at h3
      exact h3
  · exact h1.elim

theorem op_mapup {t kt et : TypeId} {sh : Sh} {x y v : Opd} {x' y' v' : Operand} (hx : chkOpd X.G x x' = true) (hy : chkOpd X.G y y' = true) (hv : chkOpd X.G v v' = true) (ht : X.P.underlying t = some (.map kt et)) (hs : eqSh X.P 100 kt sh = true) {op : Op} (hop : op = .mapUpdate t x' y' v' ∨ op = .insert t x' y' v') :
    OpS X op (.mapup sh x y v) := by
  intro o ho e H w fr a Q k hr hf hk
  have hxv := chkOpd_val hr hf hx
  have hyv := chkOpd_val hr hf hy
  have huv := chkOpd_val hr hf hv
  simp only [opT, evK_eq] at hk
  split at hk
  · rename_i b y1 hxa hya
    rw [hxa] at hxv; rw [hya] at hyv
    obtain ⟨u, e1, H1, hk, hst, htu⟩ := frz_val hr huv hk
    have hr1 := hst.rel
    have hto := hst.to hr
    have hxv := AV.val_to hto hxv
    have hyv := AV.val_to hto hyv
    simp only [AV.val, AV.leaf, id] at hxv
    obtain ⟨blk, esz, rc, n, hβ, hc⟩ := hxv
    obtain ⟨ob, hob, hk⟩ := sat_nthK hk
    split at hk
    · rename_i es
      obtain ⟨oo, hoo, hrel⟩ := hr1.obj b _ hob (by simp) _ _ _ _ hβ
      obtain ⟨hn, ents, clock, rfl, hm, hbi⟩ := hrel
      obtain ⟨hfit, hk⟩ := hk
      simp only [Bool.and_eq_true, List.all_eq_true] at hfit
      obtain ⟨_, hk⟩ := sat_setK hk
      have ty := TV_of_val hyv
      simp at hc
      have hck : (Instr.checkKey false 10000 kt (a.eval y')).run X.P w = .ok () w := check_sound (P := X.P) (w := w) (D0 := 9900) 100 kt sh y1 _ hs hfit.1 ty
      rcases find_sound (w := w) hs hfit.1 ty hm hfit.2 with ⟨h1, _, h3, _⟩ | ⟨pre, u1, post, l1, me, l2, h1, h2, h3, h4, h5, _, _, h8, _⟩
      · have hrun : (Instr.mapUpdate t (a.eval x') (a.eval y') (a.eval v')).run X.P w = .ok () (World.setBlk w blk (.map (ents.push { key := a.eval y', val := a.eval v', born := clock }) (clock + 1))) := by
          simp [Instr.mapUpdate, run_underlying ht, hc, MapKept.run_getObj_map hoo, hck, h1, MapKept.run_setObj_map _ hoo, Result.andThen, World.setBlk]
        have hst2 := Step.set hr1 hob (by simp) hβ (o' := .map (mput y1 u es)) (ob' := .map (ents.push { key := a.eval y', val := a.eval v', born := clock }) (clock + 1)) ⟨hn, _, _, rfl, by
          rw [h3, Array.toList_push]
          exact mapRel_app.2 ⟨_, _, rfl, mapRel_length hm, hm, mapRel_cons.2 ⟨_, _, rfl, ty, htu, by simp [mapRel]⟩⟩, by rw [Array.toList_push]; exact hbi.push rfl⟩
        rw [show (execOp a.eval o).run X.P w = _ from by rcases hop with rfl | rfl <;> (simp only [execOp, ho]; exact run_u hrun)]
        exact ⟨_, _, _, _, _, .inr ⟨rfl, rfl⟩, by simp only [AV.val], hst.trans hst2, hk⟩
      · have hi : ents[l1.length]? = some me := by
          rw [← Array.getElem?_toList, h2]; simp
        have hrun : (Instr.mapUpdate t (a.eval x') (a.eval y') (a.eval v')).run X.P w = .ok () (World.setBlk w blk (.map (ents.modify l1.length fun e => { e with key := a.eval y', val := a.eval v' }) clock)) := by
          simp [Instr.mapUpdate, run_underlying ht, hc, MapKept.run_getObj_map hoo, hck, h1, hi, run_stays hfit.1 h5 ty, MapKept.run_setObj_map _ hoo, Result.andThen, World.setBlk]
        have hmod : (ents.modify l1.length fun e => { e with key := a.eval y', val := a.eval v' }).toList = l1 ++ { me with key := a.eval y', val := a.eval v' } :: l2 := by
          rw [Array.toList_modify, h2, modify_mid]
        have hst2 := Step.set hr1 hob (by simp) hβ (o' := .map (mput y1 u es)) (ob' := .map (ents.modify l1.length fun e => { e with key := a.eval y', val := a.eval v' }) clock) ⟨hn, _, _, rfl, by
          rw [h8, hmod]
          exact mapRel_app.2 ⟨_, _, rfl, mapRel_length h3, h3, mapRel_cons.2 ⟨_, _, rfl, ty, htu, h4⟩⟩, by rw [hmod]; rw [h2] at hbi; exact hbi.modify⟩
        rw [show (execOp a.eval o).run X.P w = _ from by rcases hop with rfl | rfl <;> (simp only [execOp, ho]; exact run_u hrun)]
        exact ⟨_, _, _, _, _, .inr ⟨rfl, rfl⟩, by simp only [AV.val], hst.trans hst2, hk⟩
    · exact hk.elim
  · exact hk.elim

theorem op_del {t t2 kt et : TypeId} {sh : Sh} {x y : Opd} {x' y' : Operand} (hx : chkOpd X.G x x' = true) (hy : chkOpd X.G y y' = true) (ht : X.P.underlying t = some (.map kt et)) (hs : eqSh X.P 100 kt sh = true) :
    OpS X (.call { callee := .builtin .delete, args := #[x', y'], argTypes := #[t, t2] }) (.del sh x y) := by
  intro o ho e H w fr a Q k hr hf hk
  have hxv := chkOpd_val hr hf hx
  have hyv := chkOpd_val hr hf hy
  simp only [opT, evK_eq] at hk
  have run {c : Value} {w' : World} (h : (Builtin.delete_ #[t, t2] o.type #[a.eval x', a.eval y']).run X.P w = .ok c w') : (execOp a.eval o).run X.P w = .ok (.value c) w' := by
    rw [run_call_builtin ho]
    simp only [builtin]
    exact run_v (by simpa using h)
  split at hk
  · rename_i y1 hxa hya
    rw [hxa] at hxv; rw [hya] at hyv
    have hxv := val_nilm hxv
    obtain ⟨hfit, hk⟩ := hk
    have ty := TV_of_val hyv
    have hc : (Instr.checkKey true 10000 kt (a.eval y')).run X.P w = .ok () w := check_sound (P := X.P) (w := w) (D0 := 9900) (em := true) 100 kt sh y1 _ hs hfit ty
    rw [run (c := .tuple #[]) (w' := w) (by simp [Builtin.delete_, run_underlying ht, hxv, hc, Result.andThen])]
    exact ⟨_, _, e, H, w, .inl rfl, by simp [AV.val, AV.vals], Step.refl hr, hk⟩
  · rename_i b y1 hxa hya
    rw [hxa] at hxv; rw [hya] at hyv
    simp only [AV.val, AV.leaf] at hxv
    obtain ⟨blk, esz, rc, n, hβ, hc⟩ := hxv
    obtain ⟨ob, hob, hk⟩ := sat_nthK hk
    split at hk
    · rename_i es
      obtain ⟨oo, hoo, hrel⟩ := hr.obj b _ hob (by simp) _ _ _ _ hβ
      obtain ⟨hn, ents, clock, rfl, hm, hbi⟩ := hrel
      obtain ⟨hfit, hk⟩ := hk
      simp only [Bool.and_eq_true, List.all_eq_true] at hfit
      obtain ⟨_, hk⟩ := sat_setK hk
      have ty := TV_of_val hyv
      simp at hc
      have hck : (Instr.checkKey ents.isEmpty 10000 kt (a.eval y')).run X.P w = .ok () w := check_sound (P := X.P) (w := w) (D0 := 9900) 100 kt sh y1 _ hs hfit.1 ty
      rcases find_sound (w := w) hs hfit.1 ty hm hfit.2 with ⟨h1, _, _, h4⟩ | ⟨pre, u1, post, l1, me, l2, h1, h2, h3, h4, h5, _, _, _, h9⟩
      · rw [run (c := .tuple #[]) (w' := World.setBlk w blk (.map ents clock)) (by
          simp [Builtin.delete_, run_underlying ht, hc, MapKept.run_getObj_map hoo, hck, h1, MapKept.run_setObj_map _ hoo, Result.andThen, World.setBlk])]
        exact ⟨_, _, _, _, _, .inl rfl, by simp [AV.val, AV.vals], Step.set hr hob (by simp) hβ (o' := .map (mdel y1 es)) ⟨hn, _, _, rfl, by rw [h4]; exact hm, hbi⟩, hk⟩
      · have he : (ents.eraseIdxIfInBounds l1.length).toList = l1 ++ l2 := by
          rw [Array.toList_eraseIdxIfInBounds, h2]; simp [List.eraseIdx_append_of_length_le]
        rw [run (c := .tuple #[]) (w' := World.setBlk w blk (.map (ents.eraseIdxIfInBounds l1.length) clock)) (by
          simp [Builtin.delete_, run_underlying ht, hc, MapKept.run_getObj_map hoo, hck, h1, MapKept.run_setObj_map _ hoo, Result.andThen, World.setBlk])]
        exact ⟨_, _, _, _, _, .inl rfl, by simp [AV.val, AV.vals], Step.set hr hob (by simp) hβ (o' := .map (mdel y1 es)) ⟨hn, _, _, rfl, by
          rw [h9, he]; exact mapRel_app.2 ⟨_, _, rfl, mapRel_length h3, h3, h4⟩, by rw [he]; rw [h2] at hbi; exact hbi.erase⟩, hk⟩
    · exact hk.elim
  · exact hk.elim
end Stk
end
