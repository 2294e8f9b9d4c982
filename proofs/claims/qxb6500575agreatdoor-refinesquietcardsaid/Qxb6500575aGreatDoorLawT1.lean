/-
  THE TYPING of the flat code: what fits, the invariant of the one pass. No program.
-/
import Derived.Test.Qxb6500575aGreatDoorLaw2
namespace Go.Proofs.Qxb6500575aGreatDoor
open Go Go.RowKit
set_option linter.unusedVariables false
set_option linter.unusedSimpArgs false

def alive (bs : List Blk) : Bool := bs.all fun b => !b.dead
theorem alive_cons (b : Blk) (r : List Blk) : alive (b :: r) = (!b.dead && alive r) := by simp [alive]
theorem alive_drop {bs : List Blk} (h : alive bs = true) (n : Nat) : alive (bs.drop n) = true := by
  simp only [alive, List.all_eq_true] at h ⊢
  exact fun b hb => h b (List.mem_of_mem_drop hb)
def Ty (t : UInt8) : Prop := t = 105 ∨ t = 108
def TyL (l : List UInt8) : Prop := ∀ t ∈ l, Ty t
abbrev Typing := Nat → Option (List UInt8)

/-- from place a, whose target is imm, control goes on with operands τ: a hole's target is known by its block -/
structure Goes (bs : List Blk) (st : List UInt8) (T : Typing) (a : Nat) (imm : Int) (τ : List UInt8) : Prop where
  wait : ∀ b ∈ bs, a ∈ b.wait → τ = b.res.reverse ++ cut b.height st
  alt : ∀ b ∈ bs, b.alt = some a → τ = cut b.height st
  free : ¬ Pend bs a → 0 ≤ imm ∧ T imm.toNat = some τ

def JumpOk (G : Nat → Int → List UInt8 → Prop) (a : Nat) (c : Flat) (τ : List UInt8) : Prop :=
  ∃ κ ρ, τ = κ ++ ρ ∧ (κ.length : Int) = c.keep ∧ 0 ≤ c.cut ∧ c.cut.toNat ≤ ρ.length ∧ G a c.imm (κ ++ cut c.cut.toNat ρ)

/-- the flat instruction c at place a fits operands τ (the top first) -/
structure InsOk (E : Env) (G : Nat → Int → List UInt8 → Prop) (T : Typing) (code : List Flat) (a : Nat) (c : Flat) (τ : List UInt8) : Prop where
  if_ : c.op = 3 → ∃ τ', τ = 105 :: τ' ∧ T (a + 1) = some τ' ∧ G a c.imm τ'
  else_ : c.op = 4 → G a c.imm τ
  fw : c.op = 3 ∨ c.op = 4 → c.imm = -1 ∨ (a : Int) < c.imm
  end_ : c.op = 5 → τ = E.me.results.reverse
  br : c.op = 6 → JumpOk G a c τ
  brif : c.op = 7 → ∃ τ', τ = 105 :: τ' ∧ T (a + 1) = some τ' ∧ JumpOk G a c τ'
  table : c.op = 8 → ∃ τ', τ = 105 :: τ' ∧ 0 ≤ c.imm ∧ ∀ k : Nat, (k : Int) ≤ c.imm → ∃ e : Flat, code[a + 1 + k]? = some e ∧ e.op = 6 ∧ T (a + 1 + k) = some τ'
  ret : c.op = 9 → ∃ ρ, τ = E.me.results.reverse ++ ρ
  call : c.op = 10 → ∃ u ρ, 0 ≤ c.imm ∧ E.funs[c.imm.toNat]? = some u ∧ τ = u.params.reverse ++ ρ ∧ T (a + 1) = some (u.results.reverse ++ ρ)
  drop : c.op = 11 → ∃ t ρ, τ = t :: ρ ∧ T (a + 1) = some ρ
  sel : c.op = 12 → ∃ t ρ, τ = 105 :: t :: t :: ρ ∧ T (a + 1) = some (t :: ρ)
  get : c.op = 13 → ∃ t, 0 ≤ c.imm ∧ (E.me.params ++ E.me.locals)[c.imm.toNat]? = some t ∧ T (a + 1) = some (t :: τ)
  set : c.op = 14 → ∃ t ρ, 0 ≤ c.imm ∧ (E.me.params ++ E.me.locals)[c.imm.toNat]? = some t ∧ τ = t :: ρ ∧ T (a + 1) = some ρ
  plain : c.op < 0 ∨ c.op = 1 ∨ c.op = 2 ∨ 15 ≤ c.op → (sigsP c.op).2.2 = true ∧ ∃ ρ, τ = (sigsP c.op).1.reverse ++ ρ ∧ T (a + 1) = some ((sigsP c.op).2.1.reverse ++ ρ)

theorem JumpOk.mono {G G' : Nat → Int → List UInt8 → Prop} {a : Nat} {c c' : Flat} {τ : List UInt8} (h : JumpOk G a c τ) (hk : c'.keep = c.keep) (hu : c'.cut = c.cut) (hG : ∀ ρ, G a c.imm ρ → G' a c'.imm ρ) : JumpOk G' a c' τ := by
  obtain ⟨κ, ρ, h1, h2, h3, h4, h5⟩ := h
  exact ⟨κ, ρ, h1, by rw [hk]; exact h2, by rw [hu]; exact h3, by rw [hu]; exact h4, by rw [hu]; exact hG _ h5⟩

theorem InsOk.mono {E : Env} {G G' : Nat → Int → List UInt8 → Prop} {T T' : Typing} {code code' : List Flat} {a : Nat} {c c' : Flat} {τ : List UInt8} (h : InsOk E G T code a c τ)
    (hT : ∀ x ρ, T x = some ρ → T' x = some ρ) (hc : ∀ (x : Nat) (e : Flat), code[x]? = some e → ∃ e' : Flat, code'[x]? = some e' ∧ e'.op = e.op)
    (ho : c'.op = c.op) (hk : c'.keep = c.keep) (hu : c'.cut = c.cut) (hi : c'.imm = c.imm ∨ ((c.op = 3 ∨ c.op = 4 ∨ c.op = 6 ∨ c.op = 7) ∧ (a : Int) < c'.imm))
    (hG : ∀ ρ, G a c.imm ρ → G' a c'.imm ρ) : InsOk E G' T' code' a c' τ := by
  have hi' : ¬ (c.op = 3 ∨ c.op = 4 ∨ c.op = 6 ∨ c.op = 7) → c'.imm = c.imm := fun hn => by
    rcases hi with h | h
    · exact h
    · exact absurd h.1 hn
  refine ⟨fun e => ?_, fun e => ?_, fun e => ?_, fun e => ?_, fun e => ?_, fun e => ?_, fun e => ?_, fun e => ?_, fun e => ?_, fun e => ?_, fun e => ?_, fun e => ?_, fun e => ?_, fun e => ?_⟩
  · rw [ho] at e
    obtain ⟨τ', h1, h2, h3⟩ := h.if_ e
    exact ⟨τ', h1, hT _ _ h2, hG _ h3⟩
  · rw [ho] at e; exact hG _ (h.else_ e)
  · rw [ho] at e
    rcases hi with hi | hi
    · rw [hi]; exact h.fw e
    · exact .inr hi.2
  · rw [ho] at e; exact h.end_ e
  · rw [ho] at e; exact (h.br e).mono hk hu hG
  · rw [ho] at e
    obtain ⟨τ', h1, h2, h3⟩ := h.brif e
    exact ⟨τ', h1, hT _ _ h2, h3.mono hk hu hG⟩
  · rw [ho] at e
    obtain ⟨τ', h1, h2, h3⟩ := h.table e
    rw [hi' (by omega)]
    refine ⟨τ', h1, h2, fun k hk => ?_⟩
    obtain ⟨e1, e2, e3, e4⟩ := h3 k hk
    obtain ⟨e', f1, f2⟩ := hc _ _ e2
    exact ⟨e', f1, by rw [f2]; exact e3, hT _ _ e4⟩
  · rw [ho] at e; exact h.ret e
  · rw [ho] at e
    obtain ⟨u, ρ, h1, h2, h3, h4⟩ := h.call e
    rw [hi' (by omega)]
    exact ⟨u, ρ, h1, h2, h3, hT _ _ h4⟩
  · rw [ho] at e
    obtain ⟨t, ρ, h1, h2⟩ := h.drop e
    exact ⟨t, ρ, h1, hT _ _ h2⟩
  · rw [ho] at e
    obtain ⟨t, ρ, h1, h2⟩ := h.sel e
    exact ⟨t, ρ, h1, hT _ _ h2⟩
  · rw [ho] at e
    obtain ⟨t, h1, h2, h3⟩ := h.get e
    rw [hi' (by omega)]
    exact ⟨t, h1, h2, hT _ _ h3⟩
  · rw [ho] at e
    obtain ⟨t, ρ, h1, h2, h3, h4⟩ := h.set e
    rw [hi' (by omega)]
    exact ⟨t, ρ, h1, h2, h3, hT _ _ h4⟩
  · rw [ho] at e ⊢
    obtain ⟨h0, ρ, h1, h2⟩ := h.plain e
    exact ⟨h0, ρ, h1, hT _ _ h2⟩

structure TI (X : Nat → Prop) (E : Env) (s : Ck) (T : Typing) : Prop where
  zero : T 0 = some []
  dom : ∀ a τ, T a = some τ → a ≤ s.code.length
  ok : ∀ (a : Nat) (c : Flat) τ, ¬ X a → s.code[a]? = some c → T a = some τ → InsOk E (Goes s.opn s.st T) T s.code a c τ
  ty : ∀ a τ, T a = some τ → TyL τ ∧ τ.length ≤ 24
  head : ∀ (l : Nat) (b : Blk), s.opn[l]? = some b → alive (s.opn.drop (l + 1)) = true → 0 ≤ b.head → T b.head.toNat = some (cut b.height s.st)
  tyb : ∀ (l : Nat) (b : Blk), s.opn[l]? = some b → alive (s.opn.drop (l + 1)) = true → TyL (cut b.height s.st)
  wl : ∀ (l : Nat) (b : Blk), s.opn[l]? = some b → ∀ a ∈ b.wait ++ b.alt.toList, T a ≠ none → alive (s.opn.drop (l + 1)) = true
  pk : ∀ b ∈ s.opn, ∀ a ∈ b.wait ++ b.alt.toList, ∀ c, s.code[a]? = some c → c.op = 3 ∨ c.op = 4 ∨ c.op = 6 ∨ c.op = 7
  res : ∀ b ∈ s.opn, TyL b.res ∧ (b.head < 0 → b.carry = b.res) ∧ (0 ≤ b.head → b.carry = [])
  last : ∀ b, s.opn.getLast? = some b → b.height = 0 ∧ b.res = E.me.results
def Now (s : Ck) : Option (List UInt8) := if alive s.opn then some s.st else none

def upd (T : Typing) (a : Nat) (v : Option (List UInt8)) : Typing := fun x => if x = a then v else T x
theorem upd_same (T : Typing) (a : Nat) (v : Option (List UInt8)) : upd T a v a = v := by simp [upd]
theorem upd_ne (T : Typing) {a x : Nat} (v : Option (List UInt8)) (h : x ≠ a) : upd T a v x = T x := by simp [upd, h]

variable {X : Nat → Prop} {E : Env} {s : Ck} {T : Typing}
theorem TI.restack (h : TI X E s T) (st' : List UInt8) (hk : ∀ b ∈ s.opn, cut b.height st' = cut b.height s.st) : TI X E { s with st := st' } T := by
  have hm : ∀ (l : Nat) (b : Blk), s.opn[l]? = some b → cut b.height st' = cut b.height s.st := fun l b hb => hk b (List.mem_of_getElem? hb)
  refine { h with ok := fun a c τ hx0 hc hτ => ?_, head := fun l b hb ha hh => ?_, tyb := fun l b hb ha => ?_ }
  · refine (h.ok a c τ hx0 hc hτ).mono (fun _ _ => id) (fun x e he => ⟨e, he, rfl⟩) rfl rfl rfl (.inl rfl) (fun ρ g => ⟨fun b hb hw => ?_, fun b hb hw => ?_, g.free⟩)
    · rw [hk b hb]; exact g.wait b hb hw
    · rw [hk b hb]; exact g.alt b hb hw
  · rw [hm l b hb]; exact h.head l b hb ha hh
  · rw [hm l b hb]; exact h.tyb l b hb ha

theorem pend_dead {b : Blk} {r : List Blk} (d : Bool) (a : Nat) : Pend ({ b with dead := d } :: r) a ↔ Pend (b :: r) a := by
  unfold Pend
  simp [Blk.pd]
theorem TI.kill {b : Blk} {r : List Blk} (ho : s.opn = b :: r) (h : TI X E s T) (d : Bool) : TI X E { s with opn := { b with dead := d } :: r } T := by
  have hl : ∀ (l : Nat) (x : Blk), ({ b with dead := d } :: r)[l]? = some x → ∃ y : Blk, s.opn[l]? = some y ∧ x.res = y.res ∧ x.carry = y.carry ∧ x.height = y.height ∧ x.head = y.head ∧ x.alt = y.alt ∧ x.wait = y.wait := by
    intro l x hx
    rw [ho]
    cases l with
    | zero => simp at hx; subst hx; exact ⟨b, rfl, rfl, rfl, rfl, rfl, rfl, rfl⟩
    | succ l => simp at hx; exact ⟨x, by simpa using hx, rfl, rfl, rfl, rfl, rfl, rfl⟩
  have hmm : ∀ x ∈ ({ b with dead := d } :: r), ∃ y ∈ s.opn, x.res = y.res ∧ x.carry = y.carry ∧ x.height = y.height ∧ x.head = y.head ∧ x.alt = y.alt ∧ x.wait = y.wait := by
    intro x hx
    obtain ⟨l, hx⟩ := List.mem_iff_getElem?.1 hx
    obtain ⟨y, hy, hr⟩ := hl l x hx
    exact ⟨y, List.mem_of_getElem? hy, hr⟩
  have hd : ∀ l, ({ b with dead := d } :: r).drop (l + 1) = s.opn.drop (l + 1) := by intro l; rw [ho]; simp
  refine { h with ok := fun a c τ hx0 hc hτ => ?_, head := fun l x hx ha hh => ?_, tyb := fun l x hx ha => ?_, wl := fun l x hx a ha ht => ?_, pk := fun x hx a ha c hc => ?_, res := fun x hx => ?_, last := fun x hx => ?_ }
  · refine (h.ok a c τ hx0 hc hτ).mono (fun _ _ => id) (fun x e he => ⟨e, he, rfl⟩) rfl rfl rfl (.inl rfl) (fun ρ g => ⟨fun x hx hw => ?_, fun x hx hw => ?_, fun hp => g.free (fun hp' => hp ?_)⟩)
    · obtain ⟨y, hy, e1, e2, e3, e4, e5, e6⟩ := hmm x hx
      rw [e1, e3]; exact g.wait y hy (by rw [← e6]; exact hw)
    · obtain ⟨y, hy, e1, e2, e3, e4, e5, e6⟩ := hmm x hx
      rw [e3]; exact g.alt y hy (by rw [← e5]; exact hw)
    · rw [ho] at hp'
      exact (pend_dead d a).2 hp'
  · obtain ⟨y, hy, e1, e2, e3, e4, e5, e6⟩ := hl l x hx
    rw [hd] at ha
    rw [e3, e4]; exact h.head l y hy ha (by rw [← e4]; exact hh)
  · obtain ⟨y, hy, e1, e2, e3, e4, e5, e6⟩ := hl l x hx
    rw [hd] at ha
    rw [e3]; exact h.tyb l y hy ha
  · obtain ⟨y, hy, e1, e2, e3, e4, e5, e6⟩ := hl l x hx
    rw [hd]
    exact h.wl l y hy a (by rw [← e5, ← e6]; exact ha) ht
  · obtain ⟨y, hy, e1, e2, e3, e4, e5, e6⟩ := hmm x hx
    exact h.pk y hy a (by rw [← e5, ← e6]; exact ha) c hc
  · obtain ⟨y, hy, e1, e2, e3, e4, e5, e6⟩ := hmm x hx
    rw [e1, e2, e4]; exact h.res y hy
  · have hx' : s.opn.getLast? = some x ∨ ∃ y, s.opn.getLast? = some y ∧ x.height = y.height ∧ x.res = y.res := by
      rw [ho]
      cases r with
      | nil => simp at hx; subst hx; exact .inr ⟨b, by simp, rfl, rfl⟩
      | cons r0 r1 => left; simpa using hx
    rcases hx' with hx' | ⟨y, hy, e1, e2⟩
    · exact h.last x hx'
    · rw [e1, e2]; exact h.last y hy

/-- one more instruction; the block l (if any) waits for it -/
theorem TI.push (h : TI X E s T) (hpl : ∀ a, Pend s.opn a → a < s.code.length ∨ a = s.code.length) (hplw : ∀ b ∈ s.opn, s.code.length ∉ b.wait) (c : Flat) (bs' : List Blk) (v : Option (List UInt8))
    (hlen : bs'.length = s.opn.length)
    (hb : ∀ (l : Nat) (b' : Blk), bs'[l]? = some b' → ∃ b : Blk, s.opn[l]? = some b ∧ b'.res = b.res ∧ b'.carry = b.carry ∧ b'.height = b.height ∧ b'.head = b.head ∧ b'.dead = b.dead ∧ b'.alt = b.alt ∧ (b'.wait = b.wait ∨ (b'.wait = b.wait ++ [s.code.length] ∧ (c.op = 4 ∨ c.op = 6 ∨ c.op = 7) ∧ (T s.code.length ≠ none → alive (s.opn.drop (l + 1)) = true))))
    (hv : ∀ τ, v = some τ → TyL τ ∧ τ.length ≤ 24)
    (hop : ∀ b ∈ s.opn, b.alt = some s.code.length → c.op = 3)
    (hn : ∀ τ, ¬ X s.code.length → T s.code.length = some τ → InsOk E (Goes bs' s.st (upd T (s.code.length + 1) v)) (upd T (s.code.length + 1) v) (s.code ++ [c]) s.code.length c τ) :
    TI X E { st := s.st, opn := bs', code := s.code ++ [c] } (upd T (s.code.length + 1) v) := by
  have hT : ∀ x ρ, T x = some ρ → upd T (s.code.length + 1) v x = some ρ := fun x ρ hx => by
    have := h.dom x ρ hx
    rw [upd_ne _ _ (by omega)]; exact hx
  have hm : ∀ b' ∈ bs', ∃ (l : Nat) (b : Blk), bs'[l]? = some b' ∧ s.opn[l]? = some b := by
    intro b' hb'
    obtain ⟨l, hl⟩ := List.mem_iff_getElem?.1 hb'
    obtain ⟨b, h1, _⟩ := hb l b' hl
    exact ⟨l, b, hl, h1⟩
  have hd : ∀ l, alive (bs'.drop l) = alive (s.opn.drop l) := by
    intro l
    have : (bs'.drop l).map (·.dead) = (s.opn.drop l).map (·.dead) := by
      apply List.ext_getElem?
      intro i
      simp only [List.getElem?_map, List.getElem?_drop]
      cases hx : bs'[l + i]? with
      | none =>
        have h1 : bs'.length ≤ l + i := by simpa using hx
        have h2 : s.opn[l + i]? = none := by simp; omega
        rw [h2]
      | some b' =>
        obtain ⟨b, h1, h2, h3, h4, h5, h6, _⟩ := hb _ _ hx
        rw [h1]
        simp [h6]
    simp only [alive]
    have e1 : ∀ bs : List Blk, (bs.all fun b => !b.dead) = (bs.map (·.dead)).all (fun d => !d) := by intro bs; simp [List.all_map, Function.comp_def]
    rw [e1, e1, this]
  have hpp : ∀ a, Pend s.opn a → Pend bs' a := by
    rintro a ⟨b, hbm, hp⟩
    obtain ⟨l, hl⟩ := List.mem_iff_getElem?.1 hbm
    have hll : l < bs'.length := by rw [hlen]; exact (List.getElem?_eq_some_iff.1 hl).1
    obtain ⟨b0, h1, h2, h3, h4, h5, h6, h7, h8⟩ := hb l _ (List.getElem?_eq_getElem hll)
    rw [hl] at h1
    cases h1
    refine ⟨bs'[l], List.getElem_mem hll, ?_⟩
    unfold Blk.pd at hp ⊢
    rw [h7]
    rcases h8 with h8 | h8
    · rw [h8]; exact hp
    · rw [h8.1]
      simp at hp ⊢
      rcases hp with hp | hp
      · exact .inl hp
      · exact .inr (.inr hp)
  refine ⟨hT _ _ h.zero, fun a τ ha => ?_, fun a c' τ hx0 hc' hτ => ?_, fun a τ ha => ?_, fun l b' hb' ha hh => ?_, fun l b' hb' ha => ?_, fun l b' hb' a ha ht => ?_, fun b' hb' a ha c' hc' => ?_, fun b' hb' => ?_, fun b' hb' => ?_⟩
  · simp only [List.length_append, List.length_singleton]
    by_cases e : a = s.code.length + 1
    · omega
    · rw [upd_ne _ _ e] at ha
      have := h.dom a τ ha
      omega
  · simp only at hc'
    by_cases hal : a < s.code.length
    · rw [List.getElem?_append_left hal] at hc'
      rw [upd_ne _ _ (by omega)] at hτ
      refine (h.ok a c' τ hx0 hc' hτ).mono hT (fun x e he => ⟨e, ?_, rfl⟩) rfl rfl rfl (.inl rfl) (fun ρ g => ⟨fun b' hb' hw => ?_, fun b' hb' hw => ?_, fun hp => ?_⟩)
      · rw [List.getElem?_append_left (List.getElem?_eq_some_iff.1 he).1]; exact he
      · obtain ⟨l, hl⟩ := List.mem_iff_getElem?.1 hb'
        obtain ⟨b, h1, h2, h3, h4, h5, h6, h7, h8⟩ := hb l b' hl
        rw [h2, h4]
        refine g.wait b (List.mem_of_getElem? h1) ?_
        rcases h8 with h8 | h8
        · rw [← h8]; exact hw
        · rw [h8.1] at hw
          simp at hw
          rcases hw with hw | hw
          · exact hw
          · omega
      · obtain ⟨l, hl⟩ := List.mem_iff_getElem?.1 hb'
        obtain ⟨b, h1, h2, h3, h4, h5, h6, h7, h8⟩ := hb l b' hl
        rw [h4]
        exact g.alt b (List.mem_of_getElem? h1) (by rw [← h7]; exact hw)
      · obtain ⟨g1, g2⟩ := g.free (fun hp' => hp (hpp a hp'))
        exact ⟨g1, hT _ _ g2⟩
    · have hae : a = s.code.length := by
        have := (List.getElem?_eq_some_iff.1 hc').1
        simp at this; omega
      subst hae
      rw [List.getElem?_append_right (Nat.le_refl _)] at hc'
      simp at hc'
      subst hc'
      rw [upd_ne _ _ (by omega)] at hτ
      exact hn τ hx0 hτ
  · by_cases e : a = s.code.length + 1
    · subst e; rw [upd_same] at ha; exact hv τ ha
    · rw [upd_ne _ _ e] at ha; exact h.ty a τ ha
  · obtain ⟨b, h1, h2, h3, h4, h5, h6, h7, h8⟩ := hb l b' hb'
    rw [h5] at hh ⊢
    rw [h4]
    exact hT _ _ (h.head l b h1 (by rw [← hd]; exact ha) hh)
  · obtain ⟨b, h1, h2, h3, h4, h5, h6, h7, h8⟩ := hb l b' hb'
    rw [h4]
    exact h.tyb l b h1 (by rw [← hd]; exact ha)
  · obtain ⟨b, h1, h2, h3, h4, h5, h6, h7, h8⟩ := hb l b' hb'
    simp only
    rw [hd]
    have hold : a ∈ b.wait ++ b.alt.toList → alive (s.opn.drop (l + 1)) = true := fun hm => by
      refine h.wl l b h1 a hm ?_
      have := hpl a ⟨b, List.mem_of_getElem? h1, hm⟩
      rw [upd_ne _ _ (by omega)] at ht
      exact ht
    rw [h7] at ha
    rcases h8 with h8 | h8
    · rw [h8] at ha; exact hold ha
    · rw [h8.1] at ha
      simp only [List.mem_append, List.mem_singleton] at ha hold
      rcases ha with (ha | ha) | ha
      · exact hold (.inl ha)
      · subst ha
        rw [upd_ne _ _ (by omega)] at ht
        exact h8.2.2 ht
      · exact hold (.inr ha)
  · obtain ⟨l, hl⟩ := List.mem_iff_getElem?.1 hb'
    obtain ⟨b, h1, h2, h3, h4, h5, h6, h7, h8⟩ := hb l b' hl
    simp only at hc'
    by_cases hal : a < s.code.length
    · rw [List.getElem?_append_left hal] at hc'
      refine h.pk b (List.mem_of_getElem? h1) a ?_ c' hc'
      rw [h7] at ha
      rcases h8 with h8 | h8
      · rw [h8] at ha; exact ha
      · rw [h8.1] at ha
        simp at ha ⊢
        rcases ha with ha | ha | ha
        · exact .inl ha
        · omega
        · exact .inr ha
    · have hae : a = s.code.length := by
        have := (List.getElem?_eq_some_iff.1 hc').1
        simp at this; omega
      subst hae
      rw [List.getElem?_append_right (Nat.le_refl _)] at hc'
      simp at hc'
      subst hc'
      rw [h7] at ha
      have hw := hplw b (List.mem_of_getElem? h1)
      have halt := hop b (List.mem_of_getElem? h1)
      rcases h8 with h8 | h8
      · rw [h8] at ha
        simp at ha
        rcases ha with ha | ha
        · exact absurd ha hw
        · exact .inl (halt ha)
      · rcases h8.2.1 with e | e | e
        · exact .inr (.inl e)
        · exact .inr (.inr (.inl e))
        · exact .inr (.inr (.inr e))
  · obtain ⟨l, hl⟩ := List.mem_iff_getElem?.1 hb'
    obtain ⟨b, h1, h2, h3, h4, h5, h6, h7, h8⟩ := hb l b' hl
    rw [h2, h3, h5]
    exact h.res b (List.mem_of_getElem? h1)
  · rw [List.getLast?_eq_getElem?] at hb'
    obtain ⟨b, h1, h2, h3, h4, h5, h6, h7, h8⟩ := hb _ b' hb'
    rw [h4, h2]
    refine h.last b ?_
    rw [List.getLast?_eq_getElem?, ← hlen]
    exact h1
end Go.Proofs.Qxb6500575aGreatDoor
