/-
  THE WALK of the parser layer: the parser: words for statements.
-/
import Derived.Test.Qxb6500574aGreatDoorWPa15
namespace Go.Proofs.Qxb6500574aGreatDoor
open Go Go.RowKit
set_option linter.unusedVariables false
set_option linter.unusedSimpArgs false
open Go.Lib
section
variable {w w1 w2 : World} {o : Nat → Nat} {bp : Nat} {sl : Sl} {T : List Tok} {s s1 s2 : PSt} {n room : Nat} {K : List Mb} {M : Bks} {L : List Ls}
/-- what is handed on -/
theorem ExQ.thru {R : PR} {e : Ending} (h : ExQ w1 o bp T sl s1 R e w2) (t : Stp (fun l => l = 1043) w o w1 o) (al : Alike s1 s) : ExQ w o bp T sl s R e w2 := by
  obtain ⟨q, ⟨y, h1, h2, h3⟩ | ⟨v, s', tt, b, h1, h2, X⟩⟩ := h
  · exact ⟨t.trans q, .inl ⟨y, h1, h2, h3⟩⟩
  · refine ⟨t.trans q, .inr ⟨v, s', tt, b, h1, h2, X.r, X.f.from al, ?_⟩⟩
    rw [al.n]
    exact X.t.wide t.fr.size (Nat.le_refl _)
/-- a call's block -/
theorem TrA.callB {P : Nat → Prop} {N : List Nd} {lo m b : Nat} (h : TrA w P N lo m (.iface 291 (.pointer (some ⟨b, 0, none⟩)))) : ∃ cs, cs[0]? = some (.int .i64 ((N.getD m nd0).p : Nat)) ∧ P b ∧ Has w b cs 388 := by
  generalize hv : (Value.iface 291 (.pointer (some ⟨b, 0, none⟩))) = v at h
  cases h using TrA.on with
  | mk lo n v d kids mem ls hd hm hl hk hb hz hn sh =>
    have hp0 : (N.getD m nd0).p = d.p := by rw [← hd]; rfl
    rw [hp0]
    cases sh using Shp.on <;> first | (injection hv with h1 h2; exact absurd h1 (by decide)) | skip
    injection hv with h1 h2
    simp only [Value.pointer.injEq, Option.some.injEq, Addr.mk.injEq, and_true] at h2
    subst h2
    exact ⟨_, rfl, hm _ List.mem_cons_self⟩
theorem leaf_name {P : Nat → Prop} {N : List Nd} {lo c p : Nat} {x : Bs} (hd : (N.getD (lo + 1) nd0).cut = ⟨17, 0, 0, 0, 0, 0, x, p⟩) (h : Has w c #[.int .i64 (p : Nat), sv x] 357) (hc : P c) : TrA w P N lo (lo + 1) (.iface 296 (.pointer (some ⟨c, 0, none⟩))) :=
  .mk lo _ _ _ [] [(c, #[.int .i64 (p : Nat), sv x], 357)] [] hd (Mm.cons hc h (Mm.nil _ _)) (fun L hL => by cases hL) (fun x hx => by cases hx) (fun x hx => by cases hx) (fun x hx => by cases hx) (Nat.lt_succ_self _) .name
/-- two names -/
theorem Acc.names {c1 c2 p1 p2 : Nat} {x1 x2 : Bs} (h : Acc w w1 s s1 K M L) (h1 : Has w1 c1 #[.int .i64 (p1 : Nat), sv x1] 357) (z1 : w.heap.size ≤ c1) (h2 : Has w1 c2 #[.int .i64 (p2 : Nat), sv x2] 357) (z2 : w.heap.size ≤ c2) :
    Acc w w1 s ((s1.add ⟨17, 0, 0, 0, s1.nodes.length + 1, 0, x1, p1⟩).add ⟨17, 0, 0, 0, 0, 0, x2, p2⟩) (K ++ [(s1.nodes.length - 1, s1.nodes.length, .iface 296 (.pointer (some ⟨c1, 0, none⟩))), (s1.nodes.length, s1.nodes.length + 1, .iface 296 (.pointer (some ⟨c2, 0, none⟩)))]) M (L ++ [(s1.nodes.length - 1, s1.nodes.length + 1, s1.nodes.length, [(s1.nodes.length - 1, s1.nodes.length, .iface 296 (.pointer (some ⟨c1, 0, none⟩))), (s1.nodes.length, s1.nodes.length + 1, .iface 296 (.pointer (some ⟨c2, 0, none⟩)))])]) := by
  have hle := h.le
  have hn := h.n
  have ln : ((s1.add ⟨17, 0, 0, 0, s1.nodes.length + 1, 0, x1, p1⟩).add ⟨17, 0, 0, 0, 0, 0, x2, p2⟩).nodes.length = s1.nodes.length + 2 := by rw [add_len, add_len]
  have l1 : (s1.add ⟨17, 0, 0, 0, s1.nodes.length + 1, 0, x1, p1⟩).nodes.length = s1.nodes.length + 1 := add_len _ _
  have old : ∀ x, x < s1.nodes.length → ((s1.add ⟨17, 0, 0, 0, s1.nodes.length + 1, 0, x1, p1⟩).add ⟨17, 0, 0, 0, 0, 0, x2, p2⟩).nodes.getD x nd0 = s1.nodes.getD x nd0 := fun x hx => by
    rw [show ((s1.add ⟨17, 0, 0, 0, s1.nodes.length + 1, 0, x1, p1⟩).add ⟨17, 0, 0, 0, 0, 0, x2, p2⟩).nodes = (s1.add ⟨17, 0, 0, 0, s1.nodes.length + 1, 0, x1, p1⟩).nodes ++ [⟨17, 0, 0, 0, 0, 0, x2, p2⟩] from rfl, getD_old (by omega)]
    exact getD_old hx
  have n1 : ((s1.add ⟨17, 0, 0, 0, s1.nodes.length + 1, 0, x1, p1⟩).add ⟨17, 0, 0, 0, 0, 0, x2, p2⟩).nodes.getD s1.nodes.length nd0 = ⟨17, 0, 0, 0, s1.nodes.length + 1, 0, x1, p1⟩ := by
    rw [show ((s1.add ⟨17, 0, 0, 0, s1.nodes.length + 1, 0, x1, p1⟩).add ⟨17, 0, 0, 0, 0, 0, x2, p2⟩).nodes = (s1.add ⟨17, 0, 0, 0, s1.nodes.length + 1, 0, x1, p1⟩).nodes ++ [⟨17, 0, 0, 0, 0, 0, x2, p2⟩] from rfl, getD_old (by omega)]
    exact getD_last _ _
  have n2 : ((s1.add ⟨17, 0, 0, 0, s1.nodes.length + 1, 0, x1, p1⟩).add ⟨17, 0, 0, 0, 0, 0, x2, p2⟩).nodes.getD (s1.nodes.length + 1) nd0 = ⟨17, 0, 0, 0, 0, 0, x2, p2⟩ := by
    have := getD_last (s1.add ⟨17, 0, 0, 0, s1.nodes.length + 1, 0, x1, p1⟩).nodes ⟨17, 0, 0, 0, 0, 0, x2, p2⟩
    rw [l1] at this
    exact this
  have G := h.grow (s2 := (s1.add ⟨17, 0, 0, 0, s1.nodes.length + 1, 0, x1, p1⟩).add ⟨17, 0, 0, 0, 0, 0, x2, p2⟩) (by rw [ln]; omega) old
  obtain ⟨q, hq⟩ : ∃ q, s1.nodes.length = q + 1 := ⟨s1.nodes.length - 1, by omega⟩
  refine ⟨fun x hx => ?_, G.m, fun y hy => ?_, G.n, G.le, G.z⟩
  · rcases List.mem_append.1 hx with hx | hx
    · obtain ⟨a1, a2, a3, a4⟩ := G.k x hx
      exact ⟨a1, a2, a3, a4.imp_right fun ⟨y, b1, b2⟩ => ⟨y, List.mem_append_left _ b1, b2⟩⟩
    · simp only [List.mem_cons, List.not_mem_nil, or_false] at hx
      rcases hx with rfl | rfl
      · refine ⟨?_, by dsimp only; omega, by dsimp only; omega, .inr ⟨_, List.mem_append_right _ (List.mem_singleton.2 rfl), by simp⟩⟩
        dsimp only
        rw [show s1.nodes.length - 1 = q by omega]
        have := leaf_name (P := Fz w.heap.size w1.heap.size) (N := ((s1.add ⟨17, 0, 0, 0, s1.nodes.length + 1, 0, x1, p1⟩).add ⟨17, 0, 0, 0, 0, 0, x2, p2⟩).nodes) (lo := q) (by rw [← hq, n1]; rfl) h1 ⟨z1, h1.lt⟩
        rw [← hq] at this
        exact this
      · refine ⟨?_, by dsimp only; omega, by dsimp only; omega, .inr ⟨_, List.mem_append_right _ (List.mem_singleton.2 rfl), by simp⟩⟩
        exact leaf_name (by rw [n2]; rfl) h2 ⟨z2, h2.lt⟩
  · rcases List.mem_append.1 hy with hy | hy
    · exact G.l y hy
    · rcases List.mem_singleton.1 hy with rfl
      refine ⟨⟨rfl, by dsimp only; omega, rfl, rfl, by dsimp only; omega, by dsimp only; rw [n1], rfl, by dsimp only; rw [n2]⟩, by dsimp only; omega, by dsimp only; omega⟩
/-- a list of two that are linked: bounds of a loop -/
theorem LsI.two {w3 w4 : World} {s3 s4 : PSt} {v u : Nat} {V U : Value} (X : ExS w o bp T sl s s1 v w1 V) (t1 : Stp (fun l => l = 1043) w o w1 o) (t3 : Stp (fun l => l = 1043) w1 o w3 o) (hn3 : Alike s1 s3) (Y : ExS w3 o bp T sl s3 s4 u w4 U) (t4 : Stp (fun l => l = 1043) w3 o w4 o) (ow : Ow w o) :
    LsI w (w4.alloc (.cells #[V, U] 206)) s (s4.link v u) ⟨some ⟨w4.heap.size, 0, none⟩, 2⟩ [(s.nodes.length - 1, v, V), (v, u, U)] v u := by
  have f1 := X.f
  have f4 := Y.f
  have k4 : s1.nodes.length ≤ s4.nodes.length := by have := f4.kp.le; rw [hn3.n] at this; exact this
  have v1 := f1.ve
  have v4 := f4.ve
  have l1 := f1.lt
  have n1 := f1.n1
  have l4 := f4.lt
  rw [hn3.n] at l4
  have z1 := t1.fr.size
  have z3 := t3.fr.size
  have z4 := t4.fr.size
  have hll : (s4.link v u).nodes.length = s4.nodes.length := link_len s4 v u
  have old3 : ∀ i, i < s1.nodes.length → s4.nodes.getD i nd0 = s1.nodes.getD i nd0 := fun i hi => by
    have := f4.kp.old i (by rw [hn3.n]; exact hi)
    rw [hn3.n] at this
    exact this
  have hv : ((s4.link v u).nodes.getD v nd0) = { s1.nodes.getD v nd0 with next := u } := by
    rw [link_at, if_pos ⟨rfl, by omega, by omega⟩, old3 v (by omega)]
  have ho : ∀ i, i ≠ v → (s4.link v u).nodes.getD i nd0 = s4.nodes.getD i nd0 := fun i hi => by rw [link_at, if_neg (by omega)]
  obtain ⟨c1, c2, c3, c4⟩ := link_same s4 v u
  refine ⟨⟨rfl, .inr ⟨w4.heap.size, 2, #[V, U], rfl, Nat.zero_le _, (Has.new w4 _ _), Nat.le_refl _, (by decide), ?_, (by simp)⟩⟩, fun g hg => ?_, (fun e => by cases e), ⟨rfl, by dsimp only; omega, rfl, rfl, by dsimp only; omega, by dsimp only; rw [hv], by dsimp only; rw [hll]; omega, by dsimp only; rw [ho u (by omega)]; exact f4.nx⟩, ⟨(fun e => by cases e), (fun _ => by rw [hll]; omega)⟩, fun x hx => ?_, ?_, ?_, n1⟩
  · rfl
  · simp [Sl.v, Value.ownBlock] at hg
    omega
  · have hblk : ∀ k, w.heap.size ≤ k → k < w1.heap.size → (w4.alloc (.cells #[V, U] 206)).heap[k]? = w1.heap[k]? := fun k a b => by
      rw [heap_old w4 _ (by omega), t4.fr.block k (by omega) (by rw [ow k a]; decide), t3.fr.block k b (by rw [ow k a]; decide)]
    have ha : (w4.alloc (.cells #[V, U] 206)).heap.size = w4.heap.size + 1 := by simp
    simp only [List.mem_cons, List.not_mem_nil, or_false] at hx
    rcases hx with rfl | rfl
    · refine X.t.up (fun k hk => ⟨⟨⟨hk.1, by have := hk.2; omega⟩, fun e => ?_⟩, hblk k hk.1 hk.2⟩) (fun i a b => ?_) (by rw [hv]; rfl)
      · simp [Sl.v, Value.ownBlock] at e
        have := hk.2
        omega
      · rw [ho i (by omega), old3 i (by omega)]
    · have hlo : s3.nodes.length - 1 = v := by rw [hn3.n]; omega
      have Yt := Y.t
      rw [hlo] at Yt
      refine Yt.up (fun k hk => ⟨⟨⟨by have := hk.1; omega, by have := hk.2; omega⟩, fun e => ?_⟩, heap_old w4 _ hk.2⟩) (fun i a b => ?_) (by rw [ho u (by omega)])
      · simp [Sl.v, Value.ownBlock] at e
        have := hk.2
        omega
      · exact ho i (by omega)
  · have kk : Kpt s s4 := f1.kp.trans (f4.kp.alike hn3.symm (Alike.refl _))
    refine ⟨by rw [hll]; exact kk.le, fun i hi => ?_, by rw [c4]; exact kk.fu, by rw [c4]; exact kk.f12, by rw [c3]; exact kk.lp⟩
    rw [ho i (by omega)]
    exact kk.old i hi
  · exact ⟨by rw [hll]; exact f4.ok.n1, by rw [c4]; exact f4.ok.fu, by rw [c2]; exact f4.ok.al⟩
end
end Go.Proofs.Qxb6500574aGreatDoor
