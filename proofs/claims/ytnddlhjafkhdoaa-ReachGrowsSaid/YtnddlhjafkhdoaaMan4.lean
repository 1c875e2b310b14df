/- Manifests: which one bytes are, the program's word. No condition. -/
import Derived.Test.YtnddlhjafkhdoaaMan3
import Derived.Test.YtnddlhjafkhdoaaShelf
set_option linter.unusedSimpArgs false
set_option linter.unusedVariables false
set_option maxRecDepth 100000
namespace Silo
open Go Go.Eng
theorem chunks_take : ∀ (n k : Nat) (s : List UInt8), (chunks (n + k) s).take n = chunks n s
  | 0, _, _ => by simp [chunks]
  | n + 1, k, s => by rw [show n + 1 + k = (n + k) + 1 by omega]; simp only [chunks, List.take_succ_cons]; rw [chunks_take n k]
theorem chunks_drop : ∀ (n k : Nat) (s : List UInt8), (chunks (n + k) s).drop n = chunks k (s.drop (32 * n))
  | 0, k, s => by simp
  | n + 1, k, s => by
    rw [show n + 1 + k = (n + k) + 1 by omega]
    simp only [chunks, List.drop_succ_cons]
    rw [chunks_drop n k, List.drop_drop]
    congr 2; omega
theorem chunks_mem : ∀ (k : Nat) (s : List UInt8), ∀ x ∈ chunks k s, x.length ≤ 32
  | 0, _, _, h => by cases h
  | k + 1, s, x, h => by
    simp only [chunks, List.mem_cons] at h
    rcases h with rfl | h
    · rw [List.length_take]; omega
    · exact chunks_mem k _ x h
theorem at_get {s : List UInt8} {i : Nat} (h : i < s.length) : at_ s i = s[i].toNat := by rw [at_, getD_lt h]
theorem at_lt (s : List UInt8) (i : Nat) : at_ s i < 256 := UInt8.toNat_lt _
theorem manTake_no {s : List UInt8} (h : ¬ (7 ≤ s.length ∧ s.take 4 = [77, 65, 78, 70] ∧ s.length = 7 + 32 * (at_ s 5 + at_ s 6))) : manTake s = none := by rw [manTake, if_neg h]
theorem manTake_may {s : List UInt8} (h : 7 ≤ s.length ∧ s.take 4 = [77, 65, 78, 70] ∧ s.length = 7 + 32 * (at_ s 5 + at_ s 6)) : manTake s = if manMay (manOf s) then some (manOf s) else none := by rw [manTake, if_pos h]
end Silo
namespace Go.Eng
open Go Go.RowKit Silo
theorem flatSt (l : List (List UInt8)) : l.map (Value.string ∘ fun x => ByteArray.mk x.toArray) = l.flatMap fun x => [St x] := by
  induction l with
  | nil => rfl
  | cons a r ih => simp only [List.map_cons, List.flatMap_cons, ih]; rfl
/-- A slice whose elements, if there are any, lie in a row. -/
def PlainV (v : Value) : Prop := ∃ A n c, v = .slice A n c ∧ (0 < n → ∃ b off, A = some ⟨b, off, none⟩)
theorem PlainV.sub {A : Option Addr} {n c lo hi sz : Nat} (h : 0 < n → ∃ b off, A = some ⟨b, off, none⟩) (hh : hi ≤ n) : PlainV (subV (.slice A n c) lo hi sz) := by
  refine ⟨_, _, _, rfl, fun hp => ?_⟩
  obtain ⟨b, off, rfl⟩ := h (by omega)
  by_cases hc : c = lo
  · rw [if_pos hc]; exact ⟨_, _, rfl⟩
  · rw [if_neg hc]; exact ⟨_, _, by rw [Option.map_some, add_lit]⟩
theorem Own.formA {w : World} {base : Nat} {e : TypeId} {size n : Nat} {v : Value} {xs : List Value} (h : Own w base e size v n xs) : ∃ A c, v = .slice A n c ∧ n ≤ c ∧ (0 < n → ∃ b off, A = some ⟨b, off, none⟩) := by
  rcases h.2 with ⟨rfl, A, rfl⟩ | ⟨g, cap, cur, fz, rfl, _, _, _, hc, _⟩
  · exact ⟨A, 0, rfl, Nat.le_refl _, fun h => absurd h (Nat.lt_irrefl _)⟩
  · exact ⟨_, cap, rfl, hc, fun _ => ⟨_, _, rfl⟩⟩
theorem Own.ofRow {w : World} {base : Nat} {e : TypeId} {size n : Nat} {v : Value} {xs : List Value} (h : w.ownsRow base e size v n xs) : Own w base e size v n xs := by
  obtain ⟨hl, h⟩ := h
  rcases h with ⟨rfl, rfl⟩ | ⟨g, cap, cur, rfl, h1, h2, h3, h4, h5, h6⟩
  · exact ⟨hl, .inl ⟨rfl, _, rfl⟩⟩
  · exact ⟨hl, ownIn ⟨g, cap, cur, (0, 0), rfl, h1, h2, fun h => by simp at h, h3, h4, h5, h6⟩⟩
end Go.Eng
namespace Go.Eng
open Go Go.RowKit
/-- What is of a colour of its own lies behind the call's beginning. -/
theorem OwnC.fromOld {c : Nat → Nat} {w w' : World} {i n size : Nat} {e : TypeId} {u : Value} {xs : List Value} (hO : OldC w c w') (h : OwnC c w' i e size u n xs) (hi : i ≠ 0) : Own w' w.heap.size e size u n xs := by
  obtain ⟨hl, h1⟩ := h.own
  refine ⟨hl, ?_⟩
  rcases h1 with h1 | ⟨g, cap, cur, fz, rfl, hb, h2, h3, h4, h5, h6, h7, h8⟩
  · exact .inl h1
  · refine .inr ⟨g, cap, cur, fz, rfl, ?_, h2, h3, h4, h5, h6, h7, h8⟩
    rcases Nat.lt_or_ge g w.heap.size with hg | hg
    · have h9 := hO.col g hg
      rw [h.col g (rowOf_slice h8)] at h9
      exact (hi h9).elim
    · exact hg
end Go.Eng
namespace Go.Proofs.Ytnddlhjafkhdoaa
open Go Go.Eng Go.RowKit Silo TryT

theorem cloneStrs_ok {w : World} {v : Value} {l : List (List UInt8)} (h : Rd strS w v l) (hp : PlainV v) (hl : l.length * 16 ≤ 140737488355328) : Calls Try.prog 76 #[v] w (Ret fun v' w' => Below w.heap.size w w' ∧ Own w' w.heap.size 9 1 v' l.length (l.flatMap fun x => [St x])) := by
  obtain ⟨A, n, c, rfl, hA⟩ := hp
  have hn : l.length = n := by obtain ⟨A', c', he, _⟩ := h.form; injection he with _ he _; exact he.symm
  subst hn
  cases A with
  | none =>
    have h0 : l = [] := by
      cases l with
      | nil => rfl
      | cons a r => obtain ⟨b, off, h⟩ := hA (by simp); cases h
    subst h0
    refine (Try.slices_Clone_string_nil _ c w).mono fun e w' he => ?_
    obtain ⟨rfl, rfl⟩ := he
    exact ⟨_, rfl, Below.refl _ _, Own.nil _ _ _ _⟩
  | some a =>
    rcases Nat.eq_zero_or_pos l.length with h0 | h0
    · have h0' : l = [] := List.eq_nil_of_length_eq_zero h0
      subst h0'
      refine (Try.slices_Clone_string_zero a c w).mono fun e w' he => ?_
      obtain ⟨v', rfl, h1, _, h2⟩ := he
      exact ⟨_, rfl, h2, Own.ofRow h1⟩
    · obtain ⟨b, off, hA⟩ := hA h0
      injection hA with hA
      subst hA
      refine (Try.slices_Clone_string b off l.length c (l.map fun x => ⟨x.toArray⟩) w (by simp) hl fun j hj => ?_).mono fun e w' he => ?_
      · have hj' : j < l.length := by simpa using hj
        obtain ⟨cs, hc, rfl, _⟩ := h.el hj'
        have := hc.1 0 (St l[j]) rfl
        rw [List.getD_eq_getElem?_getD, List.getElem?_map, List.getElem?_eq_getElem hj']
        simpa [elemA, add_lit, strS, Shape.flat] using this
      · obtain ⟨v', rfl, h1, _, h2⟩ := he
        refine ⟨_, rfl, h2, ?_⟩
        have := Own.ofRow h1
        rwa [List.take_of_length_le (by simp), List.map_map, flatSt l] at this
theorem rdMan0 (w : World) : RdMan w [I 0, .slice none 0 0, .slice none 0 0] man0 := ⟨_, _, rfl, RdS.nil _ _ _, RdS.nil _ _ _, by simp [man0], by simp [man0]⟩

set_option maxHeartbeats 1000000 in
theorem mtake_own {w : World} (s : List UInt8) (hs : s.length ≤ 1048576) :
    Calls Try.prog 25 #[St s] w (Ret fun v w' => Below w.heap.size w w' ∧ ∃ u1 u2, v = .tuple #[.agg #[I ((manTake s).getD man0).kind, u1, u2], I (if (manTake s).isSome then 0 else 7)] ∧ Own w' w.heap.size 9 1 u1 ((manTake s).getD man0).blobs.length (((manTake s).getD man0).blobs.flatMap fun x => [St x]) ∧ Own w' w.heap.size 9 1 u2 ((manTake s).getD man0).subs.length (((manTake s).getD man0).subs.flatMap fun x => [St x])) := by
  obtain ⟨c, hO, hc⟩ := OldC.start w
  clear hc
  refine enter (n := 68) (res := #[.cell 2 29, .tmp 3]) Try.func25 rfl rfl rfl rfl ?_
  refine cseq <| cregion ?_
  refine WR.eff (Eff.allocC c 102 zero29) rfl ?_
  rintro _ w1 ⟨b2, c1, rfl, hM1, hb2⟩
  replace hO := hO.mv hM1 rfl
  refine qq (Val.assign rfl) rfl <| cnil <| cseq <| cseq <| cregion <| qq (Val.move rfl) rfl <| qq (Val.slen Try.underlying9 rfl) rfl <| qq (Val.lss rfl rfl) rfl <| qq (Val.move rfl) rfl ?_
  apply WR.sc false 4 _ (fun w' => w1 = w')
  case hl => rfl
  case hg => rfl
  case hu => rfl
  case hv => rfl
  case hs => rfl
  case hoff => rfl
  case hd => rfl
  case hF => exact fun _ => rfl
  case hT =>
   intro hq8
   try simp only [tstS] at hq8
   simp only [List.take_succ_cons, List.take_zero]
   refine WR.on rfl rfl ?_
   refine qq (Val.move rfl) rfl ?_
   refine WR.on rfl rfl ?_
   refine qq (Val.slen Try.underlying9 rfl) rfl ?_
   refine WR.on rfl rfl ?_
   refine qq (Val.remI rfl rfl (by first | omega | assumption | (simp; omega) | (simp; done)) (by first | omega | assumption | (simp; omega) | (simp; done))) rfl ?_
   refine WR.on rfl rfl ?_
   refine qq (Val.neq rfl rfl) rfl ?_
   exact WR.nil ⟨rfl, Sub.drop _ 4 _ rfl rfl, rfl⟩
  rintro _ rfl
  refine qq (Val.move rfl) rfl ?_
  apply WR.sc false 3 _ (fun w' => w1 = w')
  case hl => rfl
  case hg => rfl
  case hu => rfl
  case hv => rfl
  case hs => rfl
  case hoff => rfl
  case hd => rfl
  case hF => exact fun _ => rfl
  case hT =>
   intro hq13
   try simp only [tstS] at hq13
   simp only [List.take_succ_cons, List.take_zero]
   refine WR.on rfl rfl ?_
   refine qq (Val.move rfl) rfl ?_
   refine WR.on rfl rfl ?_
   refine qq (Val.ssliceTo Try.underlying9 rfl rfl (by first | omega | assumption | (simp; omega) | (simp; done)) (by first | omega | assumption | (simp; omega) | (simp; done))) rfl ?_
   refine WR.on rfl rfl ?_
   refine qq (Val.sne rfl rfl) rfl ?_
   exact WR.nil ⟨rfl, Sub.drop _ 3 _ rfl rfl, rfl⟩
  rintro _ rfl
  refine cnil ?_
  refine WC.cond rfl (fun hc1 => ?_) (fun hc1 => ?_)
  ·try simp only [tstS] at hc1
   have hno : manTake s = none := manTake_no (by
     rintro ⟨h1, h2, h3⟩
     rcases hc1 with (h | h) | h
     · omega
     · omega
     · rw [show Int.toNat 4 = 4 from rfl, h2] at h; simp at h)
   refine cseq <| cregion <| qq (Val.build (cells := #[I 0, .slice none 0 0, .slice none 0 0]) rfl (by kernel_rfl)) rfl ?_
   refine WR.eff_ (Eff.storeNC agg29 rfl rfl hb2 rfl rfl (by repeat (first | exact List.forall_mem_nil _ | refine List.forall_mem_cons.2 ⟨by first | rfl | assumption, ?_⟩))) ?_
   rintro _ w2 ⟨hS, hM2⟩
   replace hO := hO.mv hM2 rfl
   replace hb2 := hS
   refine qq (Val.assign rfl) rfl <| cnil ?_
   refine WC.retR2 rfl (RVal.cellN agg29 rfl hb2.blk rfl) (RVal.tmp rfl) ?_
   exact ⟨hO.below, _, _, by rw [hno]; rfl, by rw [hno]; exact Own.nil _ _ _ _, by rw [hno]; exact Own.nil _ _ _ _⟩
  ·try simp only [tstS] at hc1
   obtain ⟨h7, h32, h4⟩ : 7 ≤ s.length ∧ s.length % 32 = 7 ∧ s.take 4 = [77, 65, 78, 70] := ⟨by omega, by omega, by simpa using hc1.2⟩
   obtain ⟨K, hK⟩ : ∃ K, s.length = 7 + 32 * K := ⟨(s.length - 7) / 32, by omega⟩
   have hl4 : 4 < s.length := by omega
   have hl5 : 5 < s.length := by omega
   have hl6 : 6 < s.length := by omega
   clear hc1
   have hu5 := s[5].toNat_lt; have hu6 := s[6].toNat_lt; have hu4 := s[4].toNat_lt
   refine cskip <| cseq <| cregion <| qq (Val.move rfl) rfl <| qq (Val.sindex Try.underlying9 rfl rfl (by omega) (List.getElem?_eq_getElem hl4)) rfl <| qq (Val.convU8 Try.underlying5 Try.underlying3 rfl) rfl <| qq (Val.build (cells := #[I s[4].toNat, .slice none 0 0, .slice none 0 0]) rfl (by kernel_rfl)) rfl ?_
   refine WR.eff (Eff.allocC c1 104 zero29) rfl ?_
   rintro _ w3 ⟨b4, c3, rfl, hM3, hb4⟩
   replace hO := hO.mv hM3 rfl; replace hb2 := hb2.mv hM3 rfl
   refine WR.eff_ (Eff.storeNC agg29 rfl rfl hb4 rfl rfl (by repeat (first | exact List.forall_mem_nil _ | refine List.forall_mem_cons.2 ⟨by first | rfl | assumption, ?_⟩))) ?_
   rintro _ w4 ⟨hS, hM4⟩
   replace hO := hO.mv hM4 rfl; replace hb2 := hb2.mv hM4 rfl
   replace hb4 := hS
   refine cnil <| cseq <| cregion <| qq (Val.assign rfl) rfl <| cnil <| cseq <| cseq <| cregion <| qq (Val.assign rfl) rfl ?_
   refine cnil <| cblock ?_
   refine WC.loop (σ := Nat × Value) (fun st => [(0, St s), (2, .pointer (some ⟨b2, 0, none⟩)), (4, .pointer (some ⟨b4, 0, none⟩)), (5, st.2), (6, I (7 + 32 * st.1 : Nat))]) (fun st w' => ∃ c', OldC w c' w' ∧ BlkC c' w' 102 b2 [I 0, .slice none 0 0, .slice none 0 0] 29 ∧ BlkC c' w' 104 b4 [I s[4].toNat, .slice none 0 0, .slice none 0 0] 29 ∧ OwnC c' w' 5 9 1 st.2 (chunks st.1 (s.drop 7)).length ((chunks st.1 (s.drop 7)).flatMap fun x => [St x]) ∧ st.1 ≤ K) (fun st => K - st.1) (0, .slice none 0 0) (by repeat (first | exact Sub.nil _ | refine Sub.cons rfl ?_ | refine Sub.consM rfl ?_)) ⟨_, hO, hb2, hb4, OwnC.nil _ _ _ _ _, by simp⟩ ?_
   clear hO hb2 hb4
   rintro ⟨k, v⟩ wl ⟨cl, hO, hb2, hb4, ho, hk⟩
   dsimp only at hO hb2 hb4 ho hk ⊢
   have hlk := chunks_length k (s.drop 7)
   refine cseq <| cseq <| cregion <| qq (Val.move rfl) rfl <| qq (Val.move rfl) rfl <| qq (Val.slen Try.underlying9 rfl) rfl <| qq (Val.lss rfl rfl) rfl <| cnil ?_
   refine WC.cond rfl (fun hc6 => ?_) (fun hc6 => ?_)
   ·try simp only [tstS] at hc6
    have hk8 : k < K := by omega
    refine cskip <| cseq <| cblock <| cregion <| qq (Val.move rfl) rfl <| qq (Val.move rfl) rfl <| qq (Val.move rfl) rfl <| qq (Val.move rfl) rfl <| qq (Val.addI rfl rfl (by first | omega | assumption | (simp; omega) | (simp; done)) (by first | omega | assumption | (simp; omega) | (simp; done))) rfl ?_
    refine qq (Val.sslice Try.underlying9 rfl rfl rfl (by omega) (by omega) (by omega)) rfl ?_
    refine WR.eff (Eff.build1C cl 139 sl23 rfl rfl rfl rfl rfl) rfl ?_
    rintro _ w5 ⟨b39, c5, rfl, hM5, hb39⟩
    replace hO := hO.mv hM5 rfl; replace hb2 := hb2.mv hM5 rfl; replace hb4 := hb4.mv hM5 rfl; replace ho := ho.mv hM5 rfl
    refine WR.eff (Eff.appendC sl23 rfl rfl ho (Src.cellsAt Try.underlying23 hb39.blk.cellsAt rfl (by repeat (first | exact List.forall_mem_nil _ | refine List.forall_mem_cons.2 ⟨by first | rfl | assumption, ?_⟩))) (by rw [maxLen_eq]; first | omega | (simp; omega)) (by first | omega | (simp; omega))) rfl ?_
    rintro v40 w6 ⟨c6, hM6, hOq⟩
    clear hb39
    replace hO := hO.mv hM6 rfl; replace hb2 := hb2.mv hM6 rfl; replace hb4 := hb4.mv hM6 rfl
    replace ho := hOq
    refine qq (Val.assign rfl) rfl <| cnil <| cregion <| qq (Val.move rfl) rfl <| qq (Val.addI rfl rfl (by first | omega | assumption | (simp; omega) | (simp; done)) (by first | omega | assumption | (simp; omega) | (simp; done))) rfl <| qq (Val.assign rfl) rfl <| cnil ?_
    have e1 : ((7 + 32 * k : Nat) : Int) + 32 = ((7 + 32 * (k + 1) : Nat) : Int) := by omega
    have e2 : (((7 + 32 * k : Nat) : Int) + 32).toNat - ((7 + 32 * k : Nat) : Int).toNat = 32 := by omega
    have e3 : (chunks k (s.drop 7)).flatMap (fun x => [St x]) ++ [St ((s.drop ((7 + 32 * k : Nat) : Int).toNat).take 32)] = (chunks (k + 1) (s.drop 7)).flatMap (fun x => [St x]) := by
      rw [chunks_snoc, List.flatMap_append, List.drop_drop, Int.toNat_natCast]; rfl
    have e4 : (chunks k (s.drop 7)).length + 1 = (chunks (k + 1) (s.drop 7)).length := by rw [chunks_length, chunks_length]
    rw [e2, e3, e4] at ho
    exact ⟨(k + 1, _), (by rw [← e1]; repeat (first | exact Sub.nil _ | refine Sub.cons rfl ?_ | refine Sub.consM rfl ?_)), ⟨_, hO, hb2, hb4, ho, hk8⟩, by dsimp only; omega⟩
   ·try simp only [tstS] at hc6
    have : k = K := by omega
    subst this
    refine WC.exit rfl ?_
    refine cseq <| cregion <| qq (Val.move rfl) rfl <| qq (Val.sindex Try.underlying9 rfl rfl (by omega) (List.getElem?_eq_getElem hl5)) rfl <| qq (Val.convU8 Try.underlying5 Try.underlying3 rfl) rfl <| qq (Val.assign rfl) rfl <| cnil <| cseq <| cseq ?_
    refine cregion <| qq (Val.move rfl) rfl <| qq (Val.move rfl) rfl <| qq (Val.sindex Try.underlying9 rfl rfl (by omega) (List.getElem?_eq_getElem hl6)) rfl <| qq (Val.convU8 Try.underlying5 Try.underlying3 rfl) rfl <| qq (Val.addI rfl rfl (by first | omega | assumption | (simp; omega) | (simp; done)) (by first | omega | assumption | (simp; omega) | (simp; done))) rfl <| qq (Val.move rfl) rfl <| qq (Val.olen sl23 ho rfl) rfl <| qq (Val.neq rfl rfl) rfl ?_
    refine cnil ?_
    refine WC.cond rfl (fun hc10 => ?_) (fun hc10 => ?_)
    ·try simp only [tstS] at hc10
     rw [hlk] at hc10
     have hno : manTake s = none := manTake_no (by
       rintro ⟨h1, h2, h3⟩
       rw [at_get hl5, at_get hl6] at h3
       omega)
     refine cseq <| cregion <| qq (Val.build (cells := #[I 0, .slice none 0 0, .slice none 0 0]) rfl (by kernel_rfl)) rfl ?_
     refine WR.eff_ (Eff.storeNC agg29 rfl rfl hb2 rfl rfl (by repeat (first | exact List.forall_mem_nil _ | refine List.forall_mem_cons.2 ⟨by first | rfl | assumption, ?_⟩))) ?_
     rintro _ w7 ⟨hS, hM7⟩
     replace hO := hO.mv hM7 rfl; replace hb4 := hb4.mv hM7 rfl; replace ho := ho.mv hM7 rfl
     replace hb2 := hS
     refine qq (Val.assign rfl) rfl <| cnil ?_
     refine WC.retR2 rfl (RVal.cellN agg29 rfl hb2.blk rfl) (RVal.tmp rfl) ?_
     exact ⟨hO.below, _, _, by rw [hno]; rfl, by rw [hno]; exact Own.nil _ _ _ _, by rw [hno]; exact Own.nil _ _ _ _⟩
    ·try simp only [tstS] at hc10
     rw [hlk] at hc10
     have hcond : 7 ≤ s.length ∧ s.take 4 = [77, 65, 78, 70] ∧ s.length = 7 + 32 * (at_ s 5 + at_ s 6) := ⟨h7, h4, by rw [at_get hl5, at_get hl6]; omega⟩
     have hmk := manTake_may hcond
     have hk2 : k = at_ s 5 + at_ s 6 := by rw [at_get hl5, at_get hl6]; omega
     have hn5 : ((s[5].toNat : Nat) : Int).toNat = at_ s 5 := by rw [at_get hl5]; rfl
     have hrd : Rd strS wl v (chunks k (s.drop 7)) := ho.own.rdStrs (fun x hx => by have := chunks_mem _ _ x hx; omega) (by omega)
     have hx5 : ∀ x ∈ chunks k (s.drop 7), x.length ≤ 140737488355328 := fun x hx => by have := chunks_mem _ _ x hx; omega
     have hz5 : (chunks k (s.drop 7)).length ≤ 140737488355328 := by omega
     obtain ⟨A5, c5, rfl, hc5, hA5⟩ := ho.own.formA
     have hmo : manOf s = ⟨s[4].toNat, chunks (at_ s 5) (s.drop 7), chunks (at_ s 6) ((s.drop 7).drop (32 * at_ s 5))⟩ := by rw [manOf, at_get hl4]
     have hp1 : PlainV (subV (.slice A5 (chunks k (s.drop 7)).length c5) 0 ((s[5].toNat : Nat) : Int).toNat 1) := PlainV.sub hA5 (by rw [hlk]; omega)
     have hp2 : PlainV (subV (.slice A5 (chunks k (s.drop 7)).length c5) ((s[5].toNat : Nat) : Int).toNat (chunks k (s.drop 7)).length 1) := PlainV.sub hA5 (Nat.le_refl _)
     refine cskip <| cseq ?_
     refine WC.regionD (Kp cl wl []) [0, 0, 0, 2, 0, 0, 0, 2, 0, 3, 0, 3] [0, 1, 2, 4, 5, 6, 3, 8, 7, 9, 10, 11] mixed (by kernel_rfl) ?_
     have hM8 := Mv.drew cl wl []
     have hCw := Mv.drew cl wl []
     generalize wl.drew = w8 at hM8 hCw ⊢
     have hb20 := hb2
     have hb40 := hb4
     replace hO := hO.mv hM8 rfl; replace hb2 := hb2.mv hM8 rfl; replace hb4 := hb4.mv hM8 rfl; replace ho := ho.mv hM8 rfl
     refine qd rfl rfl rfl (fun _ => Val.move rfl) rfl <| qd rfl rfl rfl (fun _ => Val.move rfl) rfl <| qd rfl rfl rfl (fun _ => Val.partTo sl23 rfl rfl (by omega) (by omega)) rfl <| qd rfl rfl rfl (fun _ => Val.move rfl) rfl <| qd rfl rfl rfl (fun _ => Val.move rfl) rfl <| qd rfl rfl rfl (fun _ => Val.partFrom sl23 rfl rfl (by omega) (by omega)) rfl ?_
     refine WD.eff rfl rfl rfl (Eff.pureC cl 156 (Eff.call pf76 rfl (cloneStrs_ok ((ho.own.rdStrs hx5 hz5).to_ (hi := ((s[5].toNat : Nat) : Int).toNat) (by omega)) hp1 (by simp; omega)))) rfl ?_
     rintro v56 w9 ⟨c9, hM9, hx9, ho56⟩
     refine ⟨fun hC => hC.step hCw hM9 rfl, ?_⟩
     replace hCw := hCw.tr hM9 rfl
     replace hO := hO.mv hM9 rfl; replace hb2 := hb2.mv hM9 rfl; replace hb4 := hb4.mv hM9 rfl; replace ho := ho.mv hM9 rfl
     replace ho56 := ho56.toC hx9
     have c56 := ho56.cellsV; have o56 := ho56.oneC
     first | refine WD.val rfl rfl rfl (fun _ => Val.fieldAddr fld29_1 rfl) rfl ?_ | refine WD.val rfl rfl rfl (fun _ => Val.fieldAddrP fld29_1 rfl) rfl ?_
     refine WD.eff rfl rfl rfl (Eff.pureC c9 160 (Eff.call pf76 rfl (cloneStrs_ok ((ho.own.rdStrs hx5 hz5).from_ (lo := ((s[5].toNat : Nat) : Int).toNat) (by omega)) hp2 (by simp; omega)))) rfl ?_
     rintro v60 w10 ⟨c10, hM10, hx10, ho60⟩
     refine ⟨fun hC => hC.step hCw hM10 rfl, ?_⟩
     replace hCw := hCw.tr hM10 rfl
     replace hO := hO.mv hM10 rfl; replace hb2 := hb2.mv hM10 rfl; replace hb4 := hb4.mv hM10 rfl; replace ho := ho.mv hM10 rfl; replace ho56 := ho56.mv hM10 rfl
     replace ho60 := ho60.toC hx10
     have c60 := ho60.cellsV; have o60 := ho60.oneC
     refine WD.wild rfl rfl rfl (Eff.storeC scl23 rfl rfl (by first | rfl | assumption) (by first | rfl | assumption) hb4 rfl) ?_
     rintro _ w11 ⟨hS, hM11⟩
     replace hO := hO.mv hM11 rfl; replace hb2 := hb2.mv hM11 rfl; replace ho := ho.mv hM11 rfl; replace ho56 := ho56.mv hM11 rfl; replace ho60 := ho60.mv hM11 rfl
     replace hb4 := hS
     first | refine WD.val rfl rfl rfl (fun _ => Val.fieldAddr fld29_2 rfl) rfl ?_ | refine WD.val rfl rfl rfl (fun _ => Val.fieldAddrP fld29_2 rfl) rfl ?_
     refine WD.wild rfl rfl rfl (Eff.storeC scl23 rfl rfl (by first | rfl | assumption) (by first | rfl | assumption) hb4 rfl) ?_
     rintro _ w12 ⟨hS, hM12⟩
     replace hO := hO.mv hM12 rfl; replace hb2 := hb2.mv hM12 rfl; replace ho := ho.mv hM12 rfl; replace ho56 := ho56.mv hM12 rfl; replace ho60 := ho60.mv hM12 rfl
     replace hb4 := hS
     refine WD.nil ?_
     clear hb20 hb40
     clear hCw
     refine cseq <| cseq ?_
     rw [hn5] at ho56 ho60
     have e5 : (chunks k (s.drop 7)).take (at_ s 5) = chunks (at_ s 5) (s.drop 7) := by rw [hk2, chunks_take]
     have e6 : (chunks k (s.drop 7)).drop (at_ s 5) = chunks (at_ s 6) ((s.drop 7).drop (32 * at_ s 5)) := by rw [hk2, chunks_drop]
     rw [e5] at ho56; rw [e6] at ho60
     have hrm : ∀ (cc : Nat → Nat) (W : World), OwnC cc W 156 9 1 v56 (chunks (at_ s 5) (s.drop 7)).length ((chunks (at_ s 5) (s.drop 7)).flatMap fun x => [St x]) → OwnC cc W 160 9 1 v60 (chunks (at_ s 6) ((s.drop 7).drop (32 * at_ s 5))).length ((chunks (at_ s 6) ((s.drop 7).drop (32 * at_ s 5))).flatMap fun x => [St x]) → RdMan W [I s[4].toNat, v56, v60] (manOf s) := fun _ _ ho56 ho60 => by
       rw [hmo]
       exact ⟨v56, v60, rfl, ho56.own.rdStrs (fun x hx => by have := chunks_mem _ _ x hx; omega) (by rw [chunks_length]; have := at_lt s 5; omega), ho60.own.rdStrs (fun x hx => by have := chunks_mem _ _ x hx; omega) (by rw [chunks_length]; have := at_lt s 6; omega), by dsimp only; omega, by dsimp only; omega⟩
     refine cregion <| qq (Val.loadBN agg29 rfl hb4.blk rfl) rfl ?_
     refine WR.eff (Eff.pureC c10 1 (Eff.call pf72 rfl (mmay_ok (hrm _ _ ho56 ho60)))) rfl ?_
     rintro v64 w13 ⟨c13, hM13, hx13, rfl⟩
     replace hO := hO.mv hM13 rfl; replace hb2 := hb2.mv hM13 rfl; replace hb4 := hb4.mv hM13 rfl; replace ho := ho.mv hM13 rfl; replace ho56 := ho56.mv hM13 rfl; replace ho60 := ho60.mv hM13 rfl
     refine qq (Val.not rfl) rfl <| cnil ?_
     refine WC.cond rfl (fun hc13 => ?_) (fun hc13 => ?_)
     ·try simp only [tstS] at hc13
      have hno : manTake s = none := by rw [hmk, hc13]; rfl
      refine cseq <| cregion <| qq (Val.build (cells := #[I 0, .slice none 0 0, .slice none 0 0]) rfl (by kernel_rfl)) rfl ?_
      refine WR.eff_ (Eff.storeNC agg29 rfl rfl hb2 rfl rfl (by repeat (first | exact List.forall_mem_nil _ | refine List.forall_mem_cons.2 ⟨by first | rfl | assumption, ?_⟩))) ?_
      rintro _ w14 ⟨hS, hM14⟩
      replace hO := hO.mv hM14 rfl; replace hb4 := hb4.mv hM14 rfl; replace ho := ho.mv hM14 rfl; replace ho56 := ho56.mv hM14 rfl; replace ho60 := ho60.mv hM14 rfl
      replace hb2 := hS
      refine qq (Val.assign rfl) rfl <| cnil ?_
      refine WC.retR2 rfl (RVal.cellN agg29 rfl hb2.blk rfl) (RVal.tmp rfl) ?_
      exact ⟨hO.below, _, _, by rw [hno]; rfl, by rw [hno]; exact Own.nil _ _ _ _, by rw [hno]; exact Own.nil _ _ _ _⟩
     ·try simp only [tstS] at hc13
      have hye : manTake s = some (manOf s) := by rw [hmk, hc13]; rfl
      refine cskip <| cseq <| cregion <| qq (Val.loadBN agg29 rfl hb4.blk rfl) rfl ?_
      refine WR.eff_ (Eff.storeNC agg29 rfl rfl hb2 rfl rfl (by repeat (first | exact List.forall_mem_nil _ | refine List.forall_mem_cons.2 ⟨by first | rfl | assumption, ?_⟩))) ?_
      rintro _ w15 ⟨hS, hM15⟩
      replace hO := hO.mv hM15 rfl; replace hb4 := hb4.mv hM15 rfl; replace ho := ho.mv hM15 rfl; replace ho56 := ho56.mv hM15 rfl; replace ho60 := ho60.mv hM15 rfl
      replace hb2 := hS
      refine qq (Val.assign rfl) rfl <| cnil ?_
      refine WC.retR2 rfl (RVal.cellN agg29 rfl hb2.blk rfl) (RVal.tmp rfl) ?_
      exact ⟨hO.below, v56, v60, by rw [hye, hmo]; rfl, by rw [hye, hmo]; exact ho56.fromOld hO (by decide), by rw [hye, hmo]; exact ho60.fromOld hO (by decide)⟩
theorem manTake_texts {s : List UInt8} : (∀ x ∈ ((manTake s).getD man0).blobs, x.length ≤ 140737488355328) ∧ (∀ x ∈ ((manTake s).getD man0).subs, x.length ≤ 140737488355328) ∧ ((manTake s).getD man0).blobs.length ≤ 140737488355328 ∧ ((manTake s).getD man0).subs.length ≤ 140737488355328 ∧ Go.Eng.Int64 ((manTake s).getD man0).kind := by
  have h4 := at_lt s 4; have h5 := at_lt s 5; have h6 := at_lt s 6
  by_cases hc : 7 ≤ s.length ∧ s.take 4 = [77, 65, 78, 70] ∧ s.length = 7 + 32 * (at_ s 5 + at_ s 6)
  · rw [manTake_may hc]
    cases hm : manMay (manOf s) with
    | false => simp [man0]; exact ⟨by decide, by decide⟩
    | true =>
      simp only [if_true, Option.getD_some, manOf, chunks_length]
      exact ⟨fun x hx => by have := chunks_mem _ _ x hx; omega, fun x hx => by have := chunks_mem _ _ x hx; omega, by omega, by omega, by omega, by omega⟩
  · rw [manTake_no hc]; simp [man0]; exact ⟨by decide, by decide⟩
theorem mtake_ok {w : World} (s : List UInt8) (hs : s.length ≤ 1048576) :
    Calls Try.prog 25 #[St s] w (Ret fun v w' => Below w.heap.size w w' ∧ ∃ cs, v = .tuple #[.agg cs.toArray, I (if (manTake s).isSome then 0 else 7)] ∧ RdMan w' cs ((manTake s).getD man0)) :=
  (mtake_own s hs).mono fun e w' he => by
    obtain ⟨v, rfl, hb, u1, u2, rfl, h1, h2⟩ := he
    obtain ⟨a1, a2, a3, a4, a5⟩ := manTake_texts (s := s)
    exact ⟨_, rfl, hb, _, rfl, u1, u2, rfl, h1.rdStrs a1 a3, h2.rdStrs a2 a4, a5⟩
end Go.Proofs.Ytnddlhjafkhdoaa
