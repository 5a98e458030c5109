/- What the law's proof needs: InApp. -/
import Derived.Test.YtfhihhfckpolpaaCBSep
import Derived.Test.YtfhihhfckpolpaaCBPx0
import Derived.OwnWalkIn
import Derived.Maps.AppendAt
namespace Go.Proofs.Ytfhihhfckpolpaa.P
open Go Go.RowKit Go.Proofs.YtfhihhfckpolpaaW.PrintWords Go.Proofs.YtfhihhfckpolpaaW.PrintLast
theorem wpListIn_append_own_at {F : Fence} {n : Nat} {P : Program} (w : World) {ops : Array Oper} {rest : List Oper} {o : Oper} {a : Act} {Q : Exit → Act → World → Prop}
    (hg : o.guard = none) (s x : Operand) (t : TypeId) (hop : o.op = Op.call { callee := Callee.builtin Builtin.append, args := #[s, x], argTypes := #[t, t] })
    (base : Nat) (e : TypeId) (i : TypeInfo) (z : Value) (size bytes : Nat) (h1 : P.underlying t = some (.slice e)) (h2 : P.info? e = some i) (h3 : i.zero = some z) (h4 : i.size = size) (h5 : i.bytes = bytes) (h6 : z.cells.size = size) (h7 : 0 < size)
    (v : Value) (k : Nat) (xs : List Value) (hs : a.eval s = v) (hown : w.ownsRow base e size v k xs) (ad : Addr) (m c : Nat) (news : List Value) (hx : a.eval x = .slice (some ad) m c) (hn : news.length = m * size)
    (hc : ∀ j u, news[j]? = some u → w.cell? (ad.add j) = some u) (h1c : ∀ u ∈ news, u.oneCell' = true) (b1 : k + m ≤ maxLen) (b2 : (k + m) * bytes ≤ 140737488355328) (b3 : base ≤ w.heap.size)
    (hK : ∀ v' w', w'.ownsRow base e size v' (k + m) (xs ++ news) → w.grownBy w' v.ownBlock → (v'.ownBlock = v.ownBlock ∨ v'.ownBlock = some w.heap.size) → wpListIn F n P ops Q rest (a.put o.dst v') w') :
    wpListIn F n P ops Q (o :: rest) a w := by
  refine wpListIn_plain hg fun K hK' => ?_
  obtain ⟨v', w', hrun, r1, r2, _, r3⟩ := run_append_own_at (P := P) w base t o.type e i z size bytes h1 h2 h3 h4 h5 h6 h7 v k xs hown ad m c news hn hc h1c b1 b2 b3
  unfold Oper.wpIn
  refine ⟨?_, ?_⟩
  · simp [Oper.about, hop, resolve, Target.leads, Sem.run_pure]
  · rw [Oper.semAt_plain F _ _ (by rw [hop]; intro c hc'; cases hc')]
    simp [execOp, hop, resolve, invoke, builtin, hs, hx, hrun, Result.andThen]
    exact hK' _ _ (hK v' w' r1 r2 r3)
variable {F : Fence} {n : Nat} {P : Program}
theorem wpIn_rangeFunc_sep1 {α : Type} {g : Operand} {p : Tmp} {assign body : Code} {Q : Exit → Act → World → Prop} {a : Act} {w : World}
    (hro : F.round = none) (h1 : 1 ≤ n) {gf : Nat} {lb : Array Value} (hg : a.eval g = .func (.func gf) #[] lb) (hFg : F.fn gf) (eg : ∀ args w, (callFunc gf args).run P w = .ok (.enter gf args) w)
    {Enc : α → Array Value → (Nat → Prop) → World → Prop} (hE : EncOk Enc) {Kp : World → World → Prop} {S Sp : List α → Prop} {N : Nat} {w0 : World} (hseq : SeqSep F (n - 1) P gf lb Enc Kp S Sp N w0)
    (hKt : ∀ {A B C : World}, Kp A B → Kp B C → Kp A C) (hKb : ∀ (W : World) (l : Nat) (o o' : Obj), w.heap.size ≤ l → W.heap[l]? = some o → o.isCells = false → o.isWalk = false → Kp W (W.putObj l o')) (hb0 : Below w0.heap.size w0 w)
    (hps : ∀ x args T W, Enc x args T W → args.size = 1)
    (I : List α → (Nat → Prop) → World → Prop) (Ix : Code → List α → (Nat → Prop) → World → Prop) (hI : SepFrom w.heap.size I) (hIx : ∀ c, SepFrom w.heap.size (Ix c)) (hIc : CellsOf I) (hIxc : ∀ c, CellsOf (Ix c))
    (h0 : I [] (fun _ => False) w) (a₁ : Value → Act)
    (hassign : ∀ (l : Nat) (y : Value) (W : World) (K : Act → World → Prop), K (a₁ y) W →
      assign.wpIn (F.inRound l) (n - 1 - 1) P (Exit.then K (fun _ _ _ => False)) { tmps := (#[p].zip #[y]).foldl (fun t (p, v) => t.setIfInBounds p v) a.tmps, defers := [] } W)
    (hbody : ∀ (l : Nat) (pre : List α) (x : α) (M : Nat → Prop) (y : Value) (T : Nat → Prop) (W : World), I pre M W → pre.length < N → Enc x #[y] T W → (∀ b, T b → w.heap.size ≤ b ∧ ¬ M b) →
      body.wpIn (F.inRound l) (n - 1 - 1) P (sepPost w.heap.size Kp I Ix M T (pre ++ [x]) W) (a₁ y) W)
    (hdone : ∀ (D : Nat) (xs : List α) (M : Nat → Prop) (W : World), w.heap.size ≤ D → S xs → I xs M W → W.heap[D]? = some (.deferred (some [])) → Q .normal { a with defers := { target := .collected D, args := #[] } :: a.defers } W)
    (hstop : ∀ (D : Nat) (c : Code) (pre : List α) (M : Nat → Prop) (W : World), w.heap.size ≤ D → Sp pre → Ix c pre M W → W.heap[D]? = some (.deferred (some [])) → c.wpIn F n P Q { a with defers := { target := .collected D, args := #[] } :: a.defers } W) :
    (Code.rangeFunc g #[p] assign body).wpIn F n P Q a w := by
  have one : ∀ args : Array Value, args.size = 1 → ∃ y, args = #[y] := fun args h => by
    obtain ⟨l⟩ := args
    match l, h with
    | [y], _ => exact ⟨y, rfl⟩
  refine wpIn_rangeFunc_sep hro h1 hg hFg eg hE hseq hKt hKb hb0 (fun x args T W h => by rw [hps x args T W h]; rfl) I Ix hI hIx hIc hIxc h0 (fun args => a₁ (args.getD 0 undef)) ?_ ?_ hdone hstop
  · intro l args W K hs hK
    obtain ⟨y, rfl⟩ := one args (by simpa using hs)
    exact hassign l y W K hK
  · intro l pre x M args T W hi hl he hT
    obtain ⟨y, rfl⟩ := one args (hps x args T W he)
    exact hbody l pre x M y T W hi hl he hT
end Go.Proofs.Ytfhihhfckpolpaa.P
