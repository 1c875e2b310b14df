/- Disks: what reads alone. No condition. -/
import Derived.Test.YtjddnaefmikccaaArM
set_option linter.unusedSimpArgs false
set_option linter.unusedVariables false
set_option maxRecDepth 100000
namespace Go.Eng
open Go Go.RowKit Silo
/-- What was there at the start; the colours J are told, all others are 0. -/
structure OldR (c0 : Nat → Nat) (w0 : World) (J : List Nat) (c : Nat → Nat) (w : World) : Prop where
  below : Below w0.heap.size w0 w
  col : ∀ k, k < w0.heap.size → c k = mask c0 J k
theorem OldR.start (c0 : Nat → Nat) (w0 : World) (J : List Nat) : OldR c0 w0 J (mask c0 J) w0 := ⟨Below.refl _ _, fun _ _ => rfl⟩
theorem OldR.mv {c0 c c' : Nat → Nat} {w0 w w' : World} {J I : List Nat} (h : OldR c0 w0 J c w) (m : Mv c w c' w' I) (h0 : hasC I 0 = false := by rfl) (hJ : apartC J I = true := by rfl) : OldR c0 w0 J c' w' := by
  have hs := h.below.size
  refine ⟨⟨m.os.trans h.below.os, m.tape.trans h.below.tape, m.output.trans h.below.output, Nat.le_trans hs m.size, fun k hk => ?_⟩, fun k hk => (m.col k (Nat.lt_of_lt_of_le hk hs)).trans (h.col k hk)⟩
  refine (m.block k (Nat.lt_of_lt_of_le hk hs) ?_).trans (h.below.block k hk)
  rw [h.col k hk]
  unfold mask
  split
  · rename_i hh; exact hasC_of_apart hJ hh
  · exact h0
theorem dskA_at {A : Arr} {k : Nat} (hk : k < A.d.length) : A.d[k]? = some (dskA A k) := by
  simp [dskA, hk]
theorem inA_true {A : Arr} {d s : Int} : inA A d s = true ↔ isA A d = true ∧ 0 ≤ s ∧ s < A.sectors := by simp [inA]
theorem isA_true {A : Arr} {d : Int} : isA A d = true ↔ 0 ≤ d ∧ d < A.d.length := by simp [isA]
theorem inA_false {A : Arr} {d s : Int} (h : (isA A d = false ∨ s < 0) ∨ (A.sectors : Int) ≤ s) : inA A d s = false := by
  cases hx : inA A d s with
  | false => rfl
  | true =>
    obtain ⟨a, b, e⟩ := inA_true.1 hx
    rcases h with (h | h) | h
    · rw [a] at h; cases h
    · omega
    · omega
theorem inA_nat {A : Arr} {d s : Int} (h : inA A d s = true) : ∃ k j : Nat, d = k ∧ s = j ∧ k < A.d.length ∧ j < A.sectors := by
  obtain ⟨a, b, e⟩ := inA_true.1 h
  obtain ⟨a1, a2⟩ := isA_true.1 a
  exact ⟨d.toNat, s.toNat, by omega, by omega, by omega, by omega⟩
theorem isA_nat {A : Arr} {d : Int} (h : isA A d = true) : ∃ k : Nat, d = k ∧ k < A.d.length := by
  obtain ⟨a1, a2⟩ := isA_true.1 h
  exact ⟨d.toNat, by omega, by omega⟩
theorem OwnC.elemT {c : Nat → Nat} {w : World} {v : Value} {e : TypeId} {i : Nat} {l : List Txt} (h : OwnC c w i e 1 v l.length (l.map St)) {j : Nat} (hj : j < l.length) : CelC c w [i] (elemA v 1 j) [St (tx l j)] := by
  have h2 : OwnC c w i e 1 v l.length (l.flatMap fun x => [St x]) := by
    have e1 : ∀ l : List Txt, (l.flatMap fun x => [St x]) = l.map St := fun l => by induction l with
      | nil => rfl
      | cons a r ih => rw [List.flatMap_cons, ih]; rfl
    rw [e1]; exact h
  have := h2.elem (fun _ => rfl) (by decide) hj
  rw [tx_get hj]; exact this
theorem Fin64 (n : Nat) (h : n ≤ 12) : (n : Int) ≤ 9223372036854775807 := by omega
end Go.Eng
namespace Go.Proofs.Ytjddnaefmikccaa
open Go Go.Eng Go.RowKit Silo TryT
section
variable {c : Nat → Nat} {w : World} {p : Nat} {A : Arr} {d : Int}
theorem ais_ok (h : ArrC c w p A) : Calls Try.prog 28 #[.pointer (some ⟨p, 0, none⟩), I d] w (Ret fun u w' => Below w.heap.size w w' ∧ u = .bool (isA A d)) := by
  obtain ⟨v, X, hb0, hD⟩ := h
  have hR := OldR.start c w colA
  replace hb0 := hb0.inn (J := colA) rfl
  replace hD := hD.inn
  obtain ⟨A0, cp, rfl, hl1, hl2⟩ := hD.form
  generalize mask c colA = c0 at hR hb0 hD
  refine enter (n := 16) (res := #[.tmp 4]) Try.func28 rfl rfl rfl rfl ?_
  refine cseq <| cg <| za rfl <| cnil <| cseq <| cg <| zm rfl <| vq (Val.geq rfl rfl) <| zm rfl ?_
  apply WR.sc true 7 _ (fun w' => w = w')
  case hl | hg | hu | hv | hs | hoff | hd => rfl
  case hF => exact fun _ => rfl
  case hT =>
   intro hq10
   try simp only [tstS] at hq10
   simp only [List.take_succ_cons, List.take_zero]
   refine WR.on rfl rfl ?_
   refine zm rfl ?_
   refine WR.on rfl rfl ?_
   refine zm rfl ?_
   refine WR.on rfl rfl ?_
   refine vq (Val.nilCheck rfl) ?_
   refine WR.on rfl rfl ?_
   refine vq (Val.fieldAddr fld58_0 rfl) ?_
   refine WR.on rfl rfl ?_
   refine vq (Val.loadB scl56 rfl hb0.blk rfl) ?_
   refine WR.on rfl rfl ?_
   first | refine vq (Val.rdlen sl56 (by assumption) rfl) ?_ | refine vq (Val.sllen Try.underlying56 rfl) ?_ | refine vq (Val.olen sl56 (by assumption) rfl) ?_ | refine vq (Val.rdlenC sl56 (by assumption) rfl) ?_
   refine WR.on rfl rfl ?_
   refine vq (Val.lss rfl rfl) ?_
   exact WR.nil ⟨rfl, Sub.drop _ 7 _ rfl rfl, rfl⟩
  rintro _ rfl
  refine za rfl <| cnil ?_
  refine WC.ret1 rfl rfl ?_
  exact ⟨hR.below, by simp [isA]⟩
theorem adisks_ok (h : ArrC c w p A) : Calls Try.prog 47 #[.pointer (some ⟨p, 0, none⟩)] w (Ret fun u w' => Below w.heap.size w w' ∧ u = I A.d.length) := by
  obtain ⟨v, X, hb0, hD⟩ := h
  have hR := OldR.start c w colA
  replace hb0 := hb0.inn (J := colA) rfl
  replace hD := hD.inn
  obtain ⟨A0, cp, rfl, hl1, hl2⟩ := hD.form
  generalize mask c colA = c0 at hR hb0 hD
  refine enter (n := 8) (res := #[.tmp 2]) Try.func47 rfl rfl rfl rfl ?_
  refine cseq <| cg <| za rfl <| cnil <| cseq <| cg <| zm rfl <| vq (Val.nilCheck rfl) <| vq (Val.fieldAddr fld58_0 rfl) ?_
  refine vq (Val.loadB scl56 rfl hb0.blk rfl) ?_
  first | refine vq (Val.rdlen sl56 (by assumption) rfl) ?_ | refine vq (Val.sllen Try.underlying56 rfl) ?_ | refine vq (Val.olen sl56 (by assumption) rfl) ?_ | refine vq (Val.rdlenC sl56 (by assumption) rfl) ?_
  refine za rfl <| cnil ?_
  refine WC.ret1 rfl rfl ?_
  exact ⟨hR.below, rfl⟩
theorem asectors_ok (h : ArrC c w p A) : Calls Try.prog 48 #[.pointer (some ⟨p, 0, none⟩)] w (Ret fun u w' => Below w.heap.size w w' ∧ u = I A.sectors) := by
  obtain ⟨v, X, hb0, hD⟩ := h
  have hR := OldR.start c w colA
  replace hb0 := hb0.inn (J := colA) rfl
  generalize mask c colA = c0 at hR hb0
  refine enter (n := 7) (res := #[.tmp 2]) Try.func48 rfl rfl rfl rfl ?_
  refine cseq <| cg <| za rfl <| cnil <| cseq <| cg <| zm rfl <| vq (Val.nilCheck rfl) <| vq (Val.fieldAddr fld58_1 rfl) ?_
  refine vq (Val.loadB scl3 rfl hb0.blk rfl) <| za rfl <| cnil ?_
  refine WC.ret1 rfl rfl ?_
  exact ⟨hR.below, rfl⟩
theorem achanges_ok (h : ArrC c w p A) : Calls Try.prog 32 #[.pointer (some ⟨p, 0, none⟩)] w (Ret fun u w' => Below w.heap.size w w' ∧ u = I A.changes) := by
  obtain ⟨v, X, hb0, hD⟩ := h
  have hR := OldR.start c w colA
  replace hb0 := hb0.inn (J := colA) rfl
  generalize mask c colA = c0 at hR hb0
  refine enter (n := 7) (res := #[.tmp 2]) Try.func32 rfl rfl rfl rfl ?_
  refine cseq <| cg <| za rfl <| cnil <| cseq <| cg <| zm rfl <| vq (Val.nilCheck rfl) <| vq (Val.fieldAddr fld58_4 rfl) ?_
  refine vq (Val.loadB scl3 rfl hb0.blk rfl) <| za rfl <| cnil ?_
  refine WC.ret1 rfl rfl ?_
  exact ⟨hR.below, rfl⟩
theorem alive_ok (h : ArrC c w p A) : Calls Try.prog 45 #[.pointer (some ⟨p, 0, none⟩), I d] w (Ret fun u w' => Below w.heap.size w w' ∧ u = .bool (liveA A d)) := by
  have hA := h
  obtain ⟨v, X, hb0, hD⟩ := h
  have hR := OldR.start c w colA
  replace hb0 := hb0.inn (J := colA) rfl
  replace hD := hD.inn
  replace hA := hA.inn
  obtain ⟨A0, cp, rfl, hl1, hl2⟩ := hD.form
  generalize mask c colA = c0 at hR hb0 hD hA
  refine enter (n := 18) (res := #[.tmp 4]) Try.func45 rfl rfl rfl rfl ?_
  refine cseq <| cg <| za rfl <| cnil <| cseq <| cg <| zm rfl <| zm rfl ?_
  refine ve (Eff.pureC c0 1 (Eff.call pf28 rfl (ais_ok hA))) ?_
  rintro v7 w1 ⟨c1, hM1, hx1, rfl⟩
  replace hR := hR.mv hM1; replace hb0 := hb0.mv hM1; replace hD := hD.mv hM1; replace hA := hA.mv hM1
  refine zm rfl ?_
  apply WR.sc true 8 (dskA A d.toNat).live (fun w' => w1 = w')
  case hl | hg | hu | hv | hs | hoff | hd => rfl
  case hF => exact fun _ => rfl
  case hT =>
   intro hq12
   try simp only [tstS] at hq12
   simp only [List.take_succ_cons, List.take_zero]
   obtain ⟨k, rfl⟩ : ∃ k : Nat, d = k := ⟨d.toNat, by simp [isA] at hq12; omega⟩
   have hk : k < A.d.length := by simp [isA] at hq12; omega
   obtain ⟨lv, m, hX⟩ := hD.at_ (dskA_at hk)
   have hXl := hD.len
   have hc14 := hD.cel hX
   refine WR.on rfl rfl ?_
   refine zm rfl ?_
   refine WR.on rfl rfl ?_
   refine vq (Val.nilCheck rfl) ?_
   refine WR.on rfl rfl ?_
   refine vq (Val.fieldAddr fld58_0 rfl) ?_
   refine WR.on rfl rfl ?_
   refine vq (Val.loadB scl56 rfl hb0.blk rfl) ?_
   refine WR.on rfl rfl ?_
   refine zm rfl ?_
   refine WR.on rfl rfl ?_
   refine vq (Val.indexO sl56 hD.own rfl rfl (by omega) (by omega)) ?_
   refine WR.on rfl rfl ?_
   refine vq (Val.fieldAddrP fld62_0 rfl) ?_
   refine WR.on rfl rfl ?_
   refine vq (Val.loadEf scl4 rfl hc14.cel rfl) ?_
   exact WR.nil ⟨rfl, Sub.drop _ 8 _ rfl rfl, rfl⟩
  rintro _ rfl
  refine za rfl <| cnil ?_
  refine WC.ret1 rfl rfl ?_
  exact ⟨hR.below, rfl⟩
theorem amay_ok (h : ArrC c w p A) {k : Nat} (hk : k < A.d.length) : Calls Try.prog 29 #[.pointer (some ⟨p, 0, none⟩), I k] w (Ret fun u w' => Below w.heap.size w w' ∧ u = I (mayA A k)) := by
  obtain ⟨v, X, hb0, hD⟩ := h
  have hR := OldR.start c w colA
  replace hb0 := hb0.inn (J := colA) rfl
  replace hD := hD.inn
  obtain ⟨lv, m, hX⟩ := hD.at_ (dskA_at hk)
  obtain ⟨A0, cp, rfl, hl1, hl2⟩ := hD.form
  have hXl := hD.len
  have hc16 := hD.cel hX
  generalize mask c colA = c0 at hR hb0 hD hc16
  refine enter (n := 20) (res := #[.tmp 4]) Try.func29 rfl rfl rfl rfl ?_
  refine cseq <| cg <| za rfl <| cnil <| cseq <| cblock <| cseq <| cg <| zm rfl ?_
  refine vq (Val.nilCheck rfl) <| vq (Val.fieldAddr fld58_2 rfl) <| vq (Val.loadB scl4 rfl hb0.blk rfl) <| za rfl <| cnil ?_
  refine WC.cond rfl (fun hc1 => ?_) (fun hc1 => ?_)
  ·try simp only [tstS] at hc1
   refine cseq <| cg <| za rfl <| cnil ?_
   refine WC.ret1 rfl rfl ?_
   exact ⟨hR.below, by simp [mayA, hc1]⟩
  ·try simp only [tstS] at hc1
   refine cseq <| cg <| zm rfl <| vq (Val.nilCheck rfl) <| vq (Val.fieldAddr fld58_0 rfl) <| vq (Val.loadB scl56 rfl hb0.blk rfl) <| zm rfl <| vq (Val.indexO sl56 hD.own rfl rfl (by omega) (by omega)) <| vq (Val.fieldAddrP fld62_0 rfl) ?_
   refine vq (Val.loadEf scl4 rfl hc16.cel rfl) <| vq (Val.not rfl) <| za rfl <| cnil ?_
   refine WC.cond rfl (fun hc3 => ?_) (fun hc3 => ?_)
   ·try simp only [tstS] at hc3
    refine cseq <| cg <| za rfl <| cnil ?_
    refine WC.ret1 rfl rfl ?_
    exact ⟨hR.below, by simp [mayA, hc1, hc3]⟩
   ·try simp only [tstS] at hc3
    refine cskip <| cseq <| cg <| za rfl <| cnil ?_
    refine WC.ret1 rfl rfl ?_
    exact ⟨hR.below, by simp [mayA, hc1, hc3]⟩
theorem mayA_range (A : Arr) (k : Nat) : 0 ≤ mayA A k ∧ mayA A k ≤ 9 := by unfold mayA; split <;> (try split) <;> omega
theorem aread_ok (h : ArrC c w p A) (hW : WfA A) {s : Int} : Calls Try.prog 16 #[.pointer (some ⟨p, 0, none⟩), I d, I s] w (Ret fun u w' => Below w.heap.size w w' ∧ u = .tuple #[St (readA A d s).1, I (readA A d s).2]) := by
  have hA := h
  obtain ⟨v, X, hb0, hD⟩ := h
  have hR := OldR.start c w colA
  replace hb0 := hb0.inn (J := colA) rfl
  replace hD := hD.inn
  replace hA := hA.inn
  obtain ⟨A0, cp, rfl, hl1, hl2⟩ := hD.form
  have hXl := hD.len
  generalize mask c colA = c0 at hR hb0 hD hA
  refine enter (n := 59) (res := #[.tmp 6, .tmp 7]) Try.func16 rfl rfl rfl rfl ?_
  refine cseq <| cg <| za rfl <| za rfl <| cnil <| cseq <| cseq <| cg <| zm rfl ?_
  refine zm rfl ?_
  refine ve (Eff.pureC c0 1 (Eff.call pf28 rfl (ais_ok hA))) ?_
  rintro v13 w1 ⟨c1, hM1, hx1, rfl⟩
  replace hR := hR.mv hM1; replace hb0 := hb0.mv hM1; replace hD := hD.mv hM1; replace hA := hA.mv hM1
  refine vq (Val.not rfl) <| zm rfl ?_
  apply WR.sc false 2 _ (fun w' => w1 = w')
  case hl | hg | hu | hv | hs | hoff | hd => rfl
  case hF => exact fun _ => rfl
  case hT =>
   intro hq7
   try simp only [tstS] at hq7
   simp only [List.take_succ_cons, List.take_zero]
   refine WR.on rfl rfl ?_
   refine zm rfl ?_
   refine WR.on rfl rfl ?_
   refine vq (Val.lss rfl rfl) ?_
   exact WR.nil ⟨rfl, Sub.drop _ 2 _ rfl rfl, rfl⟩
  rintro _ rfl
  refine zm rfl ?_
  apply WR.sc false 6 _ (fun w' => w1 = w')
  case hl | hg | hu | hv | hs | hoff | hd => rfl
  case hF => exact fun _ => rfl
  case hT =>
   intro hq15
   try simp only [tstS] at hq15
   simp only [List.take_succ_cons, List.take_zero]
   refine WR.on rfl rfl ?_
   refine zm rfl ?_
   refine WR.on rfl rfl ?_
   refine zm rfl ?_
   refine WR.on rfl rfl ?_
   refine vq (Val.nilCheck rfl) ?_
   refine WR.on rfl rfl ?_
   refine vq (Val.fieldAddr fld58_1 rfl) ?_
   refine WR.on rfl rfl ?_
   refine vq (Val.loadB scl3 rfl hb0.blk rfl) ?_
   refine WR.on rfl rfl ?_
   refine vq (Val.geq rfl rfl) ?_
   exact WR.nil ⟨rfl, Sub.drop _ 6 _ rfl rfl, rfl⟩
  rintro _ rfl
  refine cnil ?_
  refine WC.cond rfl (fun hc1 => ?_) (fun hc1 => ?_)
  ·try simp only [tstS] at hc1
   have hin : inA A d s = false := inA_false hc1
   refine cseq <| cg <| za rfl <| za rfl <| cnil ?_
   refine WC.ret2 rfl rfl rfl ?_
   exact ⟨hR.below, by simp [readA, hin]⟩
  ·try simp only [tstS] at hc1
   have hin : inA A d s = true := inA_true.2 ⟨hc1.1.1, by omega, by omega⟩
   obtain ⟨k, j, rfl, rfl, hk, hj⟩ := inA_nat hin
   have hx := hW.each _ (List.mem_of_getElem? (dskA_at hk))
   obtain ⟨lv, m, hX⟩ := hD.at_ (dskA_at hk)
   refine cskip <| cseq <| cseq <| cg <| zm rfl <| zm rfl ?_
   refine ve (Eff.pureC c1 1 (Eff.call pf29 rfl (amay_ok hA hk))) ?_
   rintro v29 w2 ⟨c2, hM2, hx2, rfl⟩
   replace hR := hR.mv hM2; replace hb0 := hb0.mv hM2; replace hD := hD.mv hM2; replace hA := hA.mv hM2
   refine za rfl <| cnil <| cseq <| cg <| zm rfl <| vq (Val.neq rfl rfl) <| cnil ?_
   refine WC.cond rfl (fun hc4 => ?_) (fun hc4 => ?_)
   ·try simp only [tstS] at hc4
    refine cseq <| cg <| zm rfl <| za rfl <| za rfl <| cnil ?_
    refine WC.ret2 rfl rfl rfl ?_
    exact ⟨hR.below, by simp [readA, hin, hc4]⟩
   ·try simp only [tstS] at hc4
    have hc39 := hD.cel hX
    have hc53 := hc39
    have hm := hD.map hX (dskA_at hk)
    have hl := hD.row hX (dskA_at hk)
    have z1 := hW.sec; have z2 := hx.lc; have z3 := hx.ll
    have hc57 := hl.elemT (j := (j : Int).toNat) (by omega)
    refine cskip <| cseq <| cseq <| cg <| zm rfl <| vq (Val.nilCheck rfl) <| vq (Val.fieldAddr fld58_0 rfl) <| vq (Val.loadB scl56 rfl hb0.blk rfl) <| zm rfl ?_
    refine vq (Val.indexO sl56 hD.own rfl rfl (by omega) (by omega)) <| vq (Val.fieldAddrP fld62_2 rfl) <| vq (Val.loadEf scl60 rfl hc39.cel rfl) <| zm rfl <| vq (Val.lookT mapT rfl hm.obj rfl (by omega) (by omega)) <| zm rfl <| vq (Val.extract rfl rfl) <| vq (Val.extract rfl rfl) <| za rfl ?_
    refine za rfl <| cnil <| cseq <| cg <| zm rfl <| cnil ?_
    refine WC.cond rfl (fun hc7 => ?_) (fun hc7 => ?_)
    ·try simp only [tstS] at hc7
     refine cseq <| cg <| zm rfl <| za rfl <| za rfl <| cnil ?_
     refine WC.ret2 rfl rfl rfl ?_
     exact ⟨hR.below, by simp [readA, hin, hc4]; intro e; rw [e] at hc7; simp at hc7⟩
    ·try simp only [tstS] at hc7
     refine cskip <| cseq <| cg <| zm rfl <| vq (Val.nilCheck rfl) <| vq (Val.fieldAddr fld58_0 rfl) <| vq (Val.loadB scl56 rfl hb0.blk rfl) <| zm rfl <| vq (Val.indexO sl56 hD.own rfl rfl (by omega) (by omega)) ?_
     refine vq (Val.fieldAddrP fld62_1 rfl) <| vq (Val.loadEf scl59 rfl hc53.cel rfl) <| zm rfl <| vq (Val.indexO sl59 hl rfl rfl (by omega) (by omega)) <| vq (Val.loadE1 scl9 rfl hc57.cel) <| za rfl <| za rfl <| cnil ?_
     refine WC.ret2 rfl rfl rfl ?_
     exact ⟨hR.below, by simp [readA, hin, hc4]; intro e; exact absurd (List.isEmpty_iff.1 hc7) e⟩
theorem sum_take_succ (l : List Nat) (k : Nat) (hk : k < l.length) : (l.take (k + 1)).sum = (l.take k).sum + l[k] := by
  rw [List.take_succ_eq_append_getElem hk, List.sum_append]; simp
theorem sum_take_le (l : List Nat) (B : Nat) (h : ∀ x ∈ l, x ≤ B) : l.sum ≤ l.length * B := by
  induction l with
  | nil => simp
  | cons a r ih =>
    have h1 := h a (by simp)
    have h2 := ih fun x hx => h x (by simp [hx])
    rw [List.sum_cons, List.length_cons, Nat.add_mul, Nat.one_mul]; omega
def dsum (A : Arr) (k : Nat) : Nat := ((A.d.map fun x => (keysT x.cache).length).take k).sum
theorem dirty_le {A : Arr} (hW : WfA A) (k : Nat) : dsum A k ≤ 24576 := by
  unfold dsum
  have h1 := sum_take_le ((A.d.map fun x => (keysT x.cache).length).take k) 2048 fun x hx => by
    obtain ⟨y, hy, rfl⟩ := List.mem_map.1 (List.mem_of_mem_take hx)
    have := keysT_len y.cache; have := (hW.each y hy).lc; have := hW.sec; omega
  have h2 : ((A.d.map fun x => (keysT x.cache).length).take k).length ≤ 12 := by
    rw [List.length_take, List.length_map]; have := hW.many; omega
  have h3 := Nat.mul_le_mul_right 2048 h2
  omega
theorem adirty_ok (h : ArrC c w p A) (hW : WfA A) : Calls Try.prog 14 #[.pointer (some ⟨p, 0, none⟩)] w (Ret fun u w' => Below w.heap.size w w' ∧ u = I (dirtyA A)) := by
  obtain ⟨v, X, hb0, hD⟩ := h
  have hR := OldR.start c w colA
  replace hb0 := hb0.inn (J := colA) rfl
  replace hD := hD.inn
  obtain ⟨A0, cp, rfl, hl1, hl2⟩ := hD.form
  have hXl := hD.len
  generalize mask c colA = c0 at hR hb0 hD
  refine enter (n := 22) (res := #[.tmp 2]) Try.func14 rfl rfl rfl rfl ?_
  refine cseq <| cg <| za rfl <| cnil <| cseq <| cg <| za rfl <| cnil <| cseq ?_
  refine cseq <| cg <| zm rfl <| vq (Val.nilCheck rfl) <| vq (Val.fieldAddr fld58_0 rfl) <| vq (Val.loadB scl56 rfl hb0.blk rfl) ?_
  first | refine vq (Val.rdlen sl56 (by assumption) rfl) ?_ | refine vq (Val.sllen Try.underlying56 rfl) ?_ | refine vq (Val.olen sl56 (by assumption) rfl) ?_ | refine vq (Val.rdlenC sl56 (by assumption) rfl) ?_
  refine zm rfl <| cnil <| cblock ?_
  refine WC.loop (σ := Nat × Nat) (fun k => [(9, .slice A0 A.d.length cp), (10, I A.d.length), (11, I k.1), (3, I k.2)]) (fun k w' => (k.1 ≤ A.d.length ∧ k.2 = dsum A k.1) ∧ ∃ c', OldR c w colA c' w' ∧ DisksX c' w' (.slice A0 A.d.length cp) X A.d) (fun k => A.d.length - k.1) (0, 0) subs ⟨⟨by simp, rfl⟩, _, hR, hD⟩ ?_
  clear hR hb0 hD
  rintro ⟨k, n⟩ wl ⟨⟨hk, hn⟩, cl, hR, hD⟩
  dsimp only at hk hn ⊢
  have z1 := dirty_le hW k
  rw [← hn] at z1
  refine cseq <| cg <| vq (Val.lss rfl rfl) <| cnil <| cseq ?_
  refine WC.cond rfl (fun hc3 => ?_) (fun hc3 => ?_)
  ·try simp only [tstS] at hc3
   have hk' : k < A.d.length := by omega
   obtain ⟨lv, m, hX⟩ := hD.at_ (dskA_at hk')
   have hc13 := hD.cel hX
   have hm := hD.map hX (dskA_at hk')
   have q1 := (hD.row hX (dskA_at hk')).oneC
   obtain ⟨q, hq⟩ : ∃ q, q = (keysT (dskA A k).cache).length := ⟨_, rfl⟩
   have z2 : dsum A (k + 1) = n + q := by
     have := sum_take_succ (A.d.map fun x => (keysT x.cache).length) k (by simpa using hk')
     rw [hn, hq]
     unfold dsum
     rw [this]; simp [dskA, hk']
   have z4 := dirty_le hW (k + 1); have z5 := hW.many
   rw [z2] at z4
   refine cskip <| cseq <| cblock <| cseq <| cg <| vq (Val.indexO sl56 hD.own rfl rfl (by omega) (by omega)) <| vq (Val.loadE agg62 rfl hc13.cel rfl) ?_
   refine ve (Eff.allocC cl 105 zero62) ?_
   rintro _ w1 ⟨b5, c1, rfl, hM1, hb5⟩
   replace hR := hR.mv hM1; replace hD := hD.mv hM1; replace hc13 := hc13.mv hM1; replace hm := hm.mv hM1
   refine WR.eff_ (Eff.storeNC agg62 rfl rfl hb5 rfl rfl ones) ?_
   rintro _ w2 ⟨hS, hM2⟩
   replace hR := hR.mv hM2; replace hD := hD.mv hM2; replace hc13 := hc13.mv hM2; replace hm := hm.mv hM2
   replace hb5 := hS
   refine cnil <| cg <| zm rfl <| vq (Val.fieldAddr fld62_2 rfl) <| vq (Val.loadB scl60 rfl hb5.blk rfl) <| vq (Val.mlen mapT rfl hm.obj) ?_
   rw [← hq]
   refine vq (Val.addI rfl rfl side side) <| za rfl <| cnil <| cg <| vq (Val.addI rfl rfl side side) <| zm rfl <| cnil ?_
   exact ⟨(k + 1, n + q), subs, ⟨⟨by dsimp only; omega, z2.symm⟩, _, hR, hD⟩, by dsimp only; omega⟩
  ·try simp only [tstS] at hc3
   refine WC.exit rfl ?_
   refine cseq <| cg <| zm rfl <| za rfl <| cnil ?_
   refine WC.ret1 rfl rfl ?_
   have e : k = A.d.length := by omega
   refine ⟨hR.below, ?_⟩
   rw [hn, dirtyA, e, dsum, List.take_of_length_le (by simp)]
end
end Go.Proofs.Ytjddnaefmikccaa
