/- AM, part 11: an operation that passes the check is done as the table says. -/
import Derived.Test.YtihipphpfbnknaaAm10
namespace Go.Proofs.Ytihipphpfbnknaa.Am
open Go Go.RowKit
set_option linter.unusedSimpArgs false
set_option linter.unusedVariables false

theorem okOp_ok {P : Program} {o : Oper} {a : AOp} (h : okOp P o.op a = true) : Does P o a := by
  obtain ⟨dst, op, type, pos, after, guard⟩ := o
  unfold okOp at h
  split at h
  case h_1 => rename_i x y h0; dsimp only at h0; subst h0; exact (does_mov h).1
  case h_2 => rename_i x y h0; dsimp only at h0; subst h0; exact (does_mov h).2
  case h_3 => rename_i c x y c' x' y' h0; dsimp only at h0; subst h0; simp only [Bool.and_eq_true] at h; exact does_pick h.1.1 h.1.2 h.2
  case h_4 => rename_i e zs h0; dsimp only at h0; subst h0; simp only [Bool.and_eq_true] at h; exact does_new h.1.1
  case h_5 => rename_i e x y h0; dsimp only at h0; subst h0; exact does_box h
  case h_6 => rename_i t ps zero qs h0; dsimp only at h0; subst h0; simp only [Bool.and_eq_true] at h; exact does_build h.1 h.2
  case h_7 =>
    rename_i t n ps n' zero qs h0; dsimp only at h0; subst h0
    simp only [Bool.and_eq_true, decide_eq_true_eq, beq_iff_eq] at h
    obtain ⟨⟨⟨rfl, h2⟩, h3⟩, h4⟩ := h
    split at h4
    · rename_i e he
      simp only [Bool.and_eq_true, beq_iff_eq] at h4
      exact does_bsl h4.1.1 h4.1.2 h2 h3 he h4.2
    · cases h4
  case h_8 =>
    rename_i t n ps n' sz zero qs h0; dsimp only at h0; subst h0
    simp only [Bool.and_eq_true, decide_eq_true_eq, beq_iff_eq] at h
    obtain ⟨⟨⟨⟨rfl, hsz⟩, h2⟩, h3⟩, h4⟩ := h
    subst hsz
    split at h4
    · rename_i e he
      simp only [Bool.and_eq_true, beq_iff_eq] at h4
      exact does_bfz h4.1.1 h4.1.2 h2 h3 rfl he h4.2
    · cases h4
  case h_9 => rename_i t x agg n y h0; dsimp only at h0; subst h0; simp only [Bool.and_eq_true, beq_iff_eq] at h; exact does_load h.1.1 h.1.2 h.2
  case h_10 => rename_i t x v n x' v' h0; dsimp only at h0; subst h0; simp only [Bool.and_eq_true, beq_iff_eq] at h; exact does_store h.1.1 h.1.2 h.2
  case h_11 => rename_i x y h0; dsimp only at h0; subst h0; exact does_nilc h
  case h_12 => rename_i op t x y u op' x' y' h0; dsimp only at h0; subst h0; simp only [Bool.and_eq_true, decide_eq_true_eq] at h; obtain ⟨⟨rfl, h1⟩, h2⟩ := h; exact does_bin h1 h2
  case h_13 => rename_i op t x y u k neg x' y' h0; dsimp only at h0; subst h0; simp only [Bool.and_eq_true, decide_eq_true_eq] at h; obtain ⟨⟨⟨h0, hk⟩, h1⟩, h2⟩ := h; exact does_eqk h0 hk h1 h2
  case h_14 => rename_i op t x op' y h0; dsimp only at h0; subst h0; simp only [Bool.and_eq_true, decide_eq_true_eq] at h; obtain ⟨rfl, h1⟩ := h; exact does_un h1
  case h_15 =>
    rename_i s d x k y h0; dsimp only at h0; subst h0
    simp only [Bool.and_eq_true] at h
    obtain ⟨h1, h2⟩ := h
    split at h2
    · rename_i ds k' e1 e2
      simp only [decide_eq_true_eq] at h2
      subst h2
      exact does_conv h1 e1 e2
    · cases h2
  case h_16 => rename_i f first caps g xs h0; dsimp only at h0; subst h0; simp only [Bool.and_eq_true, beq_iff_eq] at h; obtain ⟨⟨rfl, h1⟩, h2⟩ := h; exact does_mkfn h1 h2
  case h_17 =>
    rename_i t l c sz bytes zero l' c' h0; dsimp only at h0; subst h0
    simp only [Bool.and_eq_true] at h
    obtain ⟨⟨h1, h2⟩, h3⟩ := h
    split at h3
    · rename_i e he
      simp only [Bool.and_eq_true] at h3
      obtain ⟨h3, h4⟩ := h3
      split at h4
      · rename_i i hi
        simp only [Bool.and_eq_true, beq_iff_eq] at h4
        exact does_mksl h1 h2 he h3 hi h4.1 h4.2
      · cases h4
    · cases h3
  case h_18 =>
    rename_i t x lo hi sz y lo' hi' h0; dsimp only at h0; subst h0
    simp only [Bool.and_eq_true, decide_eq_true_eq] at h
    obtain ⟨⟨⟨⟨h1, h2⟩, h3⟩, h4⟩, h5⟩ := h
    split at h5
    · rename_i e he
      simp only [beq_iff_eq] at h5
      exact does_slc h1 h2 h3 h4 he h5
    · cases h5
  case h_19 =>
    rename_i t x lo hi y lo' hi' h0; dsimp only at h0; subst h0
    simp only [Bool.and_eq_true] at h
    obtain ⟨⟨⟨h1, h2⟩, h3⟩, h5⟩ := h
    split at h5
    · rename_i e; exact does_sls h1 h2 h3 e
    · cases h5
  case h_20 =>
    rename_i t x f off y h0; dsimp only at h0; subst h0
    simp only [Bool.and_eq_true] at h
    obtain ⟨h1, h2⟩ := h
    split at h2
    · rename_i fs hu
      split at h2
      · rename_i fd hf
        simp only [Bool.and_eq_true, beq_iff_eq] at h2
        obtain ⟨h2, h3⟩ := h2
        split at h3
        · rename_i n hn
          simp only [decide_eq_true_eq] at h3
          exact does_fadr h1 hu hf h2 hn h3
        · cases h3
      · cases h2
    · cases h2
  case h_21 =>
    rename_i t x f agg off n y h0; dsimp only at h0; subst h0
    simp only [Bool.and_eq_true] at h
    obtain ⟨h1, h2⟩ := h
    split at h2
    · rename_i fs hu
      split at h2
      · rename_i fd hf
        simp only [Bool.and_eq_true, beq_iff_eq] at h2
        exact does_fld h1 hu hf h2.1.1 h2.1.2 h2.2
      · cases h2
    · cases h2
  case h_22 =>
    rename_i t x i sz y j h0; dsimp only at h0; subst h0
    simp only [Bool.and_eq_true] at h
    obtain ⟨⟨h1, h2⟩, h3⟩ := h
    split at h3
    · rename_i e he
      simp only [beq_iff_eq] at h3
      exact does_iad h1 h2 he h3
    · cases h3
  case h_23 =>
    rename_i t x i y j h0; dsimp only at h0; subst h0
    simp only [Bool.and_eq_true] at h
    obtain ⟨⟨h1, h2⟩, h3⟩ := h
    split at h3
    · rename_i e; exact does_idx h1 h2 e
    · cases h3
  case h_24 => rename_i x n m y h0; dsimp only at h0; subst h0; simp only [Bool.and_eq_true, beq_iff_eq] at h; obtain ⟨rfl, h1⟩ := h; exact does_ext h1
  case h_25 =>
    rename_i args ts str y h0; dsimp only at h0; subst h0
    split at h
    · rename_i x t ha ht
      simp only [Bool.and_eq_true] at h
      obtain ⟨h1, h2⟩ := h
      split at h2
      · rename_i d hd; exact does_len h1 hd h2 ht ha
      · cases h2
    · cases h
  case h_26 =>
    rename_i args ts sz bytes s y h0; dsimp only at h0; subst h0
    split at h
    · rename_i a b ha
      simp only [Bool.and_eq_true] at h
      exact does_app h.1.1 h.1.2 ha h.2
    · cases h
  case h_27 => rename_i e x y h0; dsimp only at h0; subst h0; exact does_boxf h
  case h_28 =>
    rename_i t n ps sz h0; dsimp only at h0; subst h0
    simp only [Bool.and_eq_true, beq_iff_eq] at h
    obtain ⟨⟨h1, h2⟩, h3⟩ := h
    split at h3
    · rename_i e he; exact does_bz h1 h2 he h3
    · cases h3
  case h_29 =>
    rename_i t x lo k k' sz y h0; dsimp only at h0; subst h0
    simp only [Bool.and_eq_true] at h
    obtain ⟨⟨h1, h2⟩, h3⟩ := h
    split at h3
    · rename_i e he
      simp only [beq_iff_eq] at h3
      exact does_slc0 h1 (by simpa using h2) he h3
    · cases h3
  case h_30 =>
    rename_i s d x y h0; dsimp only at h0; subst h0
    simp only [Bool.and_eq_true] at h
    obtain ⟨h1, h2⟩ := h
    split at h2
    · rename_i e e1 e2
      split at h2
      · rename_i e3; exact does_b2s h1 e1 e2 e3
      · cases h2
    · cases h2
  case h_31 =>
    rename_i s d x y h0; dsimp only at h0; subst h0
    simp only [Bool.and_eq_true] at h
    obtain ⟨h1, h2⟩ := h
    split at h2
    · rename_i e e1 e2
      split at h2
      · rename_i e3; exact does_s2b h1 e1 e2 e3
      · cases h2
    · cases h2
  case h_32 =>
    rename_i t x i len sz y j h0; dsimp only at h0; subst h0
    simp only [Bool.and_eq_true] at h
    obtain ⟨⟨h1, h2⟩, h3⟩ := h
    split at h3
    · rename_i n e e1
      simp only [Bool.and_eq_true, beq_iff_eq] at h3
      obtain ⟨rfl, h4⟩ := h3
      exact does_iadA h1 h2 e1 h4
    · cases h3
  case h_33 => rename_i args ts xs h0; dsimp only at h0; subst h0; exact does_mx h
  case h_34 => rename_i args ts xs h0; dsimp only at h0; subst h0; exact does_mn h
  case h_35 => cases h

end Go.Proofs.Ytihipphpfbnknaa.Am
