/- Part of this proof; laid by program. -/
import Derived.Test.YtpnhjkiligohnaaGreatDoorProg
import Derived.Test.YtpnhjkiligohnaaGreatDoorJ6
namespace Go.Proofs.YtpnhjkiligohnaaGreatDoor
@[reducible] def F.law23_ScriptBack : Nat := 5
@[reducible] def F.script_Decode : Nat := 7
@[reducible] def F.ref23_Same : Nat := 8
@[reducible] def F.ref23_Decode : Nat := 9
@[reducible] def F.law23_awake : Nat := 10
@[reducible] def F.script_Encode : Nat := 11
@[reducible] def F.ref23_Encode : Nat := 12
@[reducible] def F.script_Check : Nat := 13
@[reducible] def F.script_Play : Nat := 14
@[reducible] def F.mesh_Mesh_Size : Nat := 15
@[reducible] def F.mesh_Mesh_Steps : Nat := 16
@[reducible] def F.mesh_Mesh_Told : Nat := 17
@[reducible] def F.mesh_Mesh_Up : Nat := 18
@[reducible] def F.mesh_Mesh_State : Nat := 19
@[reducible] def F.ref22_CheckLinks : Nat := 20
@[reducible] def F.script_Decode_1 : Nat := 21
@[reducible] def F.script_links : Nat := 22
@[reducible] def F.script_step : Nat := 23
@[reducible] def F.ref23_SameLinks : Nat := 24
@[reducible] def F.ref23_SameStep : Nat := 25
@[reducible] def F.ref23_take : Nat := 26
@[reducible] def F.ref23_others : Nat := 27
@[reducible] def F.ref23_settings : Nat := 28
@[reducible] def F.ref23_Links : Nat := 29
@[reducible] def F.ref23_step : Nat := 30
@[reducible] def F.law23_start : Nat := 31
@[reducible] def F.script_Run : Nat := 32
@[reducible] def F.script_Encode_1 : Nat := 33
@[reducible] def F.script_settings : Nat := 34
@[reducible] def F.script_lays : Nat := 35
@[reducible] def F.ref23_encodeSet : Nat := 36
@[reducible] def F.ref23_encodeStep : Nat := 37
@[reducible] def F.mesh_New : Nat := 38
@[reducible] def F.mesh_Mesh_Step : Nat := 39
@[reducible] def F.mesh_Mesh_is : Nat := 40
@[reducible] def F.node_Node_State : Nat := 41
@[reducible] def F.script_fields : Nat := 42
@[reducible] def F.script_scale : Nat := 43
@[reducible] def F.script_most : Nat := 44
@[reducible] def F.ref23_among : Nat := 45
@[reducible] def F.ref23_some : Nat := 46
@[reducible] def F.ref23_line : Nat := 47
@[reducible] def F.strconv_Itoa : Nat := 48
@[reducible] def F.script_Text : Nat := 49
@[reducible] def F.script_lower : Nat := 50
@[reducible] def F.script_lays_1 : Nat := 51
@[reducible] def F.ref23_lays : Nat := 52
@[reducible] def F.ref23_less : Nat := 53
@[reducible] def F.node_Check : Nat := 54
@[reducible] def F.mesh_Mesh_ways : Nat := 55
@[reducible] def F.line_New : Nat := 56
@[reducible] def F.disk_New : Nat := 57
@[reducible] def F.mesh_Mesh_boot : Nat := 58
@[reducible] def F.mesh_Mesh_move : Nat := 59
@[reducible] def F.mesh_Mesh_calm : Nat := 60
@[reducible] def F.mesh_Mesh_node : Nat := 61
@[reducible] def F.custody_Custody_State : Nat := 62
@[reducible] def F.ref23_data : Nat := 63
@[reducible] def F.internal_strconv_Itoa : Nat := 64
@[reducible] def F.msg_Text : Nat := 65
@[reducible] def F.script_hex : Nat := 66
@[reducible] def F.ref23_lay : Nat := 67
@[reducible] def F.store_New : Nat := 68
@[reducible] def F.node_in : Nat := 69
@[reducible] def F.node_New : Nat := 70
@[reducible] def F.mesh_Mesh_near : Nat := 71
@[reducible] def F.mesh_Mesh_behind : Nat := 72
@[reducible] def F.line_Line_Tick : Nat := 73
@[reducible] def F.line_Line_Take : Nat := 74
@[reducible] def F.node_Node_Receive : Nat := 75
@[reducible] def F.node_Node_Tick : Nat := 76
@[reducible] def F.mesh_Mesh_submit : Nat := 77
@[reducible] def F.mesh_Mesh_tick : Nat := 78
@[reducible] def F.mesh_Mesh_bytes : Nat := 79
@[reducible] def F.mesh_Mesh_crash : Nat := 80
@[reducible] def F.mesh_Mesh_start : Nat := 81
@[reducible] def F.disk_Disk_Limit : Nat := 82
@[reducible] def F.mesh_Mesh_compact : Nat := 83
@[reducible] def F.disk_Disk_Arm : Nat := 84
@[reducible] def F.store_Store_State : Nat := 85
@[reducible] def F.msg_Check : Nat := 87
@[reducible] def F.store_in : Nat := 88
@[reducible] def F.seen_New : Nat := 89
@[reducible] def F.routes_New : Nat := 90
@[reducible] def F.custody_Open : Nat := 91
@[reducible] def F.hop_New : Nat := 92
@[reducible] def F.link_New : Nat := 93
@[reducible] def F.hdlc_New : Nat := 94
@[reducible] def F.node_Node_works : Nat := 95
@[reducible] def F.node_Node_Delivered : Nat := 96
@[reducible] def F.node_Node_Down : Nat := 97
@[reducible] def F.line_Line_Put : Nat := 98
@[reducible] def F.node_Node_Take : Nat := 99
@[reducible] def F.node_Node_ready : Nat := 100
@[reducible] def F.hdlc_Decoder_Feed : Nat := 101
@[reducible] def F.control_Get : Nat := 102
@[reducible] def F.link_Link_Receive : Nat := 103
@[reducible] def F.link_Link_In : Nat := 104
@[reducible] def F.custody_Custody_Failed : Nat := 105
@[reducible] def F.node_Node_word : Nat := 106
@[reducible] def F.routes_Table_Tick : Nat := 107
@[reducible] def F.node_Node_near : Nat := 108
@[reducible] def F.link_Link_Tick : Nat := 109
@[reducible] def F.hop_Desk_Tick : Nat := 110
@[reducible] def F.link_Link_Up : Nat := 111
@[reducible] def F.node_Node_push : Nat := 112
@[reducible] def F.routes_Table_Vector : Nat := 113
@[reducible] def F.node_Node_Submit : Nat := 114
@[reducible] def F.line_Line_Drop : Nat := 115
@[reducible] def F.line_Line_Flip : Nat := 116
@[reducible] def F.line_Line_Insert : Nat := 117
@[reducible] def F.line_Line_Len : Nat := 118
@[reducible] def F.disk_Disk_Crash : Nat := 119
@[reducible] def F.node_Node_Compact : Nat := 120
@[reducible] def F.disk_Disk_ready : Nat := 121
@[reducible] def F.store_Store_Held : Nat := 122
@[reducible] def F.seen_Set_Marks : Nat := 123
@[reducible] def F.msg_Check_1 : Nat := 128
@[reducible] def F.routes_node : Nat := 129
@[reducible] def F.disk_Disk_Down : Nat := 130
@[reducible] def F.custody_Custody_sweep : Nat := 131
@[reducible] def F.custody_Custody_load : Nat := 132
@[reducible] def F.custody_Custody_replay : Nat := 133
@[reducible] def F.custody_Custody_boot : Nat := 134
@[reducible] def F.sender_New : Nat := 135
@[reducible] def F.recv_New : Nat := 136
@[reducible] def F.link_Link_setup : Nat := 137
@[reducible] def F.link_Link_Resets : Nat := 138
@[reducible] def F.hop_Desk_Reset : Nat := 139
@[reducible] def F.node_Node_offer : Nat := 140
@[reducible] def F.link_Link_Out : Nat := 141
@[reducible] def F.control_Put : Nat := 142
@[reducible] def F.hdlc_Encode : Nat := 143
@[reducible] def F.hdlc_Decoder_byte : Nat := 144
@[reducible] def F.control_kind : Nat := 145
@[reducible] def F.bits_Get : Nat := 146
@[reducible] def F.control_Check : Nat := 147
@[reducible] def F.link_Link_sabme : Nat := 148
@[reducible] def F.link_Link_ua : Nat := 149
@[reducible] def F.link_Link_dm : Nat := 150
@[reducible] def F.link_Link_fits : Nat := 151
@[reducible] def F.link_Link_send : Nat := 152
@[reducible] def F.hop_Get : Nat := 153
@[reducible] def F.node_Node_offered : Nat := 154
@[reducible] def F.hop_Desk_Ack : Nat := 155
@[reducible] def F.custody_Custody_Release : Nat := 156
@[reducible] def F.hop_Desk_Refuse : Nat := 157
@[reducible] def F.routes_Table_Hear : Nat := 158
@[reducible] def F.routes_Table_Heard : Nat := 159
@[reducible] def F.slices_Sort_int_int : Nat := 160
@[reducible] def F.sender_Sender_Under : Nat := 161
@[reducible] def F.link_Link_anew : Nat := 162
@[reducible] def F.sender_Sender_Again : Nat := 163
@[reducible] def F.link_Link_data : Nat := 164
@[reducible] def F.sender_Sender_Len : Nat := 165
@[reducible] def F.recv_Receiver_Waits : Nat := 166
@[reducible] def F.hop_Put : Nat := 167
@[reducible] def F.link_Link_Push : Nat := 168
@[reducible] def F.routes_Table_near : Nat := 169
@[reducible] def F.routes_Table_Cost : Nat := 170
@[reducible] def F.routes_Table_Next : Nat := 171
@[reducible] def F.custody_Custody_Submit : Nat := 172
@[reducible] def F.disk_Disk_Names : Nat := 173
@[reducible] def F.custody_Custody_Compact : Nat := 174
@[reducible] def F.disk_named : Nat := 175
@[reducible] def F.slices_SortFunc_store_place_store_place : Nat := 176
@[reducible] def F.store_Store_Held_1 : Nat := 177
@[reducible] def F.slices_SortFunc_api_Mark_api_Mark : Nat := 178
@[reducible] def F.seen_Set_Marks_1 : Nat := 179
@[reducible] def F.slices_Compare_int_int : Nat := 180
@[reducible] def F.math_bits_Len64 : Nat := 182
@[reducible] def F.custody_Custody_has : Nat := 186
@[reducible] def F.disk_Disk_Remove : Nat := 187
@[reducible] def F.custody_Custody_snaps : Nat := 188
@[reducible] def F.disk_Disk_Read : Nat := 189
@[reducible] def F.custody_name : Nat := 190
@[reducible] def F.snap_Get : Nat := 191
@[reducible] def F.store_From : Nat := 192
@[reducible] def F.wal_Open : Nat := 193
@[reducible] def F.store_GetEv : Nat := 194
@[reducible] def F.store_Store_Apply : Nat := 195
@[reducible] def F.custody_Custody_put : Nat := 196
@[reducible] def F.recv_Receiver_Reset : Nat := 197
@[reducible] def F.hop_Desk_Offered : Nat := 198
@[reducible] def F.custody_Custody_Held : Nat := 199
@[reducible] def F.hop_Desk_Plan : Nat := 200
@[reducible] def F.hop_Desk_Back : Nat := 201
@[reducible] def F.control_bit : Nat := 202
@[reducible] def F.bits_Put : Nat := 203
@[reducible] def F.stuff_Stuff : Nat := 204
@[reducible] def F.crc_Add : Nat := 205
@[reducible] def F.hdlc_Decoder_end : Nat := 206
@[reducible] def F.control_numbered : Nat := 207
@[reducible] def F.control_Check_1 : Nat := 208
@[reducible] def F.link_Link_reset : Nat := 209
@[reducible] def F.link_Link_heard : Nat := 210
@[reducible] def F.link_Link_comes : Nat := 211
@[reducible] def F.link_Link_again : Nat := 212
@[reducible] def F.link_Link_ready : Nat := 213
@[reducible] def F.msg_Get : Nat := 214
@[reducible] def F.msg_GetId : Nat := 215
@[reducible] def F.hop_Check : Nat := 216
@[reducible] def F.custody_Custody_Seen : Nat := 217
@[reducible] def F.custody_Custody_Deliver : Nat := 218
@[reducible] def F.custody_Custody_Find : Nat := 219
@[reducible] def F.custody_Custody_Hold : Nat := 220
@[reducible] def F.hop_Desk_Is : Nat := 221
@[reducible] def F.hop_Desk_to : Nat := 222
@[reducible] def F.slices_pdqsortOrdered_int : Nat := 223
@[reducible] def F.math_bits_Len : Nat := 224
@[reducible] def F.window_Each : Nat := 225
@[reducible] def F.window_In : Nat := 226
@[reducible] def F.window_Way : Nat := 227
@[reducible] def F.msg_PutId : Nat := 228
@[reducible] def F.sender_Sender_Push : Nat := 229
@[reducible] def F.link_Link_goes : Nat := 230
@[reducible] def F.slices_Contains_int_int : Nat := 231
@[reducible] def F.routes_Table_cost : Nat := 232
@[reducible] def F.custody_Custody_ready : Nat := 233
@[reducible] def F.store_Store_Fresh : Nat := 234
@[reducible] def F.slices_Sort_string_string : Nat := 235
@[reducible] def F.wal_Log_Begin : Nat := 236
@[reducible] def F.custody_Custody_told : Nat := 237
@[reducible] def F.custody_Custody_lay : Nat := 238
@[reducible] def F.custody_Custody_turn : Nat := 239
@[reducible] def F.slices_pdqsortCmpFunc_store_place : Nat := 240
@[reducible] def F.slices_pdqsortCmpFunc_api_Mark : Nat := 241
@[reducible] def F.cmp_Compare_int : Nat := 242
@[reducible] def F.math_bits_TrailingZeros32 : Nat := 243
@[reducible] def F.math_bits_TrailingZeros64 : Nat := 244
@[reducible] def F.disk_Disk_there : Nat := 245
@[reducible] def F.disk_Disk_changed : Nat := 246
@[reducible] def F.wal_Name : Nat := 247
@[reducible] def F.crc_Sum : Nat := 248
@[reducible] def F.snap_Get_1 : Nat := 249
@[reducible] def F.snap_Check : Nat := 250
@[reducible] def F.store_nexts : Nat := 251
@[reducible] def F.seen_From : Nat := 252
@[reducible] def F.wal_Log_open : Nat := 253
@[reducible] def F.store_Store_May : Nat := 254
@[reducible] def F.seen_Set_Add : Nat := 255
@[reducible] def F.store_PutEv : Nat := 256
@[reducible] def F.wal_Log_Append : Nat := 257
@[reducible] def F.wal_Log_Sync : Nat := 258
@[reducible] def F.slices_SortFunc_api_Id_api_Id : Nat := 259
@[reducible] def F.hop_Desk_Offered_1 : Nat := 260
@[reducible] def F.msg_Less : Nat := 261
@[reducible] def F.crc_Fcs : Nat := 262
@[reducible] def F.stuff_Unstuff : Nat := 263
@[reducible] def F.crc_Right : Nat := 264
@[reducible] def F.sender_Sender_Reset : Nat := 265
@[reducible] def F.link_Link_ack : Nat := 266
@[reducible] def F.recv_Receiver_Forget : Nat := 267
@[reducible] def F.recv_Receiver_Take : Nat := 268
@[reducible] def F.link_Link_answer : Nat := 269
@[reducible] def F.msg_CheckMsg : Nat := 270
@[reducible] def F.msg_Same : Nat := 271
@[reducible] def F.store_Store_Seen : Nat := 272
@[reducible] def F.store_Store_Find : Nat := 273
@[reducible] def F.slices_insertionSortOrdered_int : Nat := 274
@[reducible] def F.slices_heapSortOrdered_int : Nat := 275
@[reducible] def F.slices_breakPatternsOrdered_int : Nat := 276
@[reducible] def F.slices_choosePivotOrdered_int : Nat := 277
@[reducible] def F.slices_reverseRangeOrdered_int : Nat := 278
@[reducible] def F.slices_partialInsertionSortOrdered_int : Nat := 279
@[reducible] def F.cmp_Less_int : Nat := 280
@[reducible] def F.slices_partitionEqualOrdered_int : Nat := 281
@[reducible] def F.slices_partitionOrdered_int : Nat := 282
@[reducible] def F.math_bits_Len32 : Nat := 283
@[reducible] def F.window_Each_1 : Nat := 284
@[reducible] def F.window_Reduce : Nat := 285
@[reducible] def F.sender_Sender_Send : Nat := 286
@[reducible] def F.slices_Index_int_int : Nat := 287
@[reducible] def F.slices_pdqsortOrdered_string : Nat := 288
@[reducible] def F.wal_Log_length : Nat := 289
@[reducible] def F.snap_Put : Nat := 290
@[reducible] def F.disk_Disk_Append : Nat := 291
@[reducible] def F.disk_Disk_Sync : Nat := 292
@[reducible] def F.disk_Disk_Rename : Nat := 293
@[reducible] def F.wal_Log_Drop : Nat := 294
@[reducible] def F.slices_insertionSortCmpFunc_store_place : Nat := 295
@[reducible] def F.slices_heapSortCmpFunc_store_place : Nat := 296
@[reducible] def F.slices_breakPatternsCmpFunc_store_place : Nat := 297
@[reducible] def F.slices_choosePivotCmpFunc_store_place : Nat := 298
@[reducible] def F.slices_reverseRangeCmpFunc_store_place : Nat := 299
@[reducible] def F.slices_partialInsertionSortCmpFunc_store_place : Nat := 300
@[reducible] def F.slices_partitionEqualCmpFunc_store_place : Nat := 301
@[reducible] def F.slices_partitionCmpFunc_store_place : Nat := 302
@[reducible] def F.slices_insertionSortCmpFunc_api_Mark : Nat := 303
@[reducible] def F.slices_heapSortCmpFunc_api_Mark : Nat := 304
@[reducible] def F.slices_breakPatternsCmpFunc_api_Mark : Nat := 305
@[reducible] def F.slices_choosePivotCmpFunc_api_Mark : Nat := 306
@[reducible] def F.slices_reverseRangeCmpFunc_api_Mark : Nat := 307
@[reducible] def F.slices_partialInsertionSortCmpFunc_api_Mark : Nat := 308
@[reducible] def F.slices_partitionEqualCmpFunc_api_Mark : Nat := 309
@[reducible] def F.slices_partitionCmpFunc_api_Mark : Nat := 310
@[reducible] def F.cmp_isNaN_int : Nat := 311
@[reducible] def F.crc_down : Nat := 312
@[reducible] def F.seen_right : Nat := 313
@[reducible] def F.seen_Set_Gaps : Nat := 314
@[reducible] def F.wal_Log_remove : Nat := 315
@[reducible] def F.wal_Log_segments : Nat := 316
@[reducible] def F.wal_Log_open_1 : Nat := 317
@[reducible] def F.record_Scan : Nat := 318
@[reducible] def F.disk_Disk_Cut : Nat := 319
@[reducible] def F.wal_Log_open_2 : Nat := 320
@[reducible] def F.slices_Reverse_int_int : Nat := 321
@[reducible] def F.store_form : Nat := 322
@[reducible] def F.seen_Set_May : Nat := 323
@[reducible] def F.seen_Set_of : Nat := 324
@[reducible] def F.slices_BinarySearch_int_int : Nat := 325
@[reducible] def F.slices_Insert_int_int : Nat := 326
@[reducible] def F.msg_Put : Nat := 327
@[reducible] def F.wal_Log_ready : Nat := 328
@[reducible] def F.record_Put : Nat := 329
@[reducible] def F.wal_Log_told : Nat := 330
@[reducible] def F.disk_Disk_Safe : Nat := 331
@[reducible] def F.slices_pdqsortCmpFunc_api_Id : Nat := 332
@[reducible] def F.crc_Step : Nat := 333
@[reducible] def F.sender_Sender_Ack : Nat := 334
@[reducible] def F.recv_Receiver_check : Nat := 335
@[reducible] def F.window_Next : Nat := 336
@[reducible] def F.recv_Receiver_Missing : Nat := 337
@[reducible] def F.seen_Set_Has : Nat := 338
@[reducible] def F.slices_siftDownOrdered_int : Nat := 339
@[reducible] def F.slices_nextPowerOfTwo : Nat := 340
@[reducible] def F.slices_xorshift_Next : Nat := 341
@[reducible] def F.slices_medianAdjacentOrdered_int : Nat := 342
@[reducible] def F.slices_medianOrdered_int : Nat := 343
@[reducible] def F.slices_insertionSortOrdered_string : Nat := 344
@[reducible] def F.slices_heapSortOrdered_string : Nat := 345
@[reducible] def F.slices_breakPatternsOrdered_string : Nat := 346
@[reducible] def F.slices_choosePivotOrdered_string : Nat := 347
@[reducible] def F.slices_reverseRangeOrdered_string : Nat := 348
@[reducible] def F.slices_partialInsertionSortOrdered_string : Nat := 349
@[reducible] def F.cmp_Less_string : Nat := 350
@[reducible] def F.slices_partitionEqualOrdered_string : Nat := 351
@[reducible] def F.slices_partitionOrdered_string : Nat := 352
@[reducible] def F.snap_lay : Nat := 353
@[reducible] def F.disk_Disk_Used : Nat := 354
@[reducible] def F.wal_Log_Drop_1 : Nat := 355
@[reducible] def F.slices_siftDownCmpFunc_store_place : Nat := 356
@[reducible] def F.slices_medianAdjacentCmpFunc_store_place : Nat := 357
@[reducible] def F.slices_medianCmpFunc_store_place : Nat := 358
@[reducible] def F.slices_siftDownCmpFunc_api_Mark : Nat := 359
@[reducible] def F.slices_medianAdjacentCmpFunc_api_Mark : Nat := 360
@[reducible] def F.slices_medianCmpFunc_api_Mark : Nat := 361
@[reducible] def F.wal_number : Nat := 362
@[reducible] def F.record_rows : Nat := 363
@[reducible] def F.slices_isNaN_int : Nat := 364
@[reducible] def F.slices_insertionSortCmpFunc_api_Id : Nat := 367
@[reducible] def F.slices_heapSortCmpFunc_api_Id : Nat := 368
@[reducible] def F.slices_breakPatternsCmpFunc_api_Id : Nat := 369
@[reducible] def F.slices_choosePivotCmpFunc_api_Id : Nat := 370
@[reducible] def F.slices_reverseRangeCmpFunc_api_Id : Nat := 371
@[reducible] def F.slices_partialInsertionSortCmpFunc_api_Id : Nat := 372
@[reducible] def F.slices_partitionEqualCmpFunc_api_Id : Nat := 373
@[reducible] def F.slices_partitionCmpFunc_api_Id : Nat := 374
@[reducible] def F.recv_Receiver_Kept : Nat := 375
@[reducible] def F.window_Missing : Nat := 376
@[reducible] def F.slices_order2Ordered_int : Nat := 377
@[reducible] def F.slices_siftDownOrdered_string : Nat := 378
@[reducible] def F.slices_medianAdjacentOrdered_string : Nat := 379
@[reducible] def F.slices_medianOrdered_string : Nat := 380
@[reducible] def F.cmp_isNaN_string : Nat := 381
@[reducible] def F.slices_order2CmpFunc_store_place : Nat := 382
@[reducible] def F.slices_order2CmpFunc_api_Mark : Nat := 383
@[reducible] def F.record_rows_1 : Nat := 384
@[reducible] def F.record_First : Nat := 385
@[reducible] def F.slices_rotateLeft_int : Nat := 386
@[reducible] def F.slices_siftDownCmpFunc_api_Id : Nat := 387
@[reducible] def F.slices_medianAdjacentCmpFunc_api_Id : Nat := 388
@[reducible] def F.slices_medianCmpFunc_api_Id : Nat := 389
@[reducible] def F.window_Sort : Nat := 390
@[reducible] def F.window_has : Nat := 391
@[reducible] def F.slices_order2Ordered_string : Nat := 392
@[reducible] def F.slices_order2CmpFunc_api_Id : Nat := 393
@[reducible] def T.int : TypeId := 3
@[reducible] def T.bool : TypeId := 4
@[reducible] def T.uint8 : TypeId := 5
@[reducible] def T.string : TypeId := 9
@[reducible] def T.s_uint8 : TypeId := 22
@[reducible] def T.s_api_Link : TypeId := 23
@[reducible] def T.api_Quota : TypeId := 25
@[reducible] def T.api_Settings : TypeId := 27
@[reducible] def T.s_api_Step : TypeId := 28
@[reducible] def T.api_Script : TypeId := 30
@[reducible] def T.api_Link : TypeId := 58
@[reducible] def T.api_Step : TypeId := 61
@[reducible] def T.s_int : TypeId := 99
@[reducible] def T.disk_Disk : TypeId := 137
@[reducible] def T.uint64 : TypeId := 201
@[reducible] def T.disk_file : TypeId := 258
@[reducible] def T.a20_uint64 : TypeId := 274
@[reducible] def T.sender_Sender : TypeId := 292
@[reducible] def T.a128_bool : TypeId := 433
end Go.Proofs.YtpnhjkiligohnaaGreatDoor
namespace Go.Vm
theorem brn {x : Bool} {A B : Prop} (h : x = true → A) (h' : x = false → B) : Brn x A B := ⟨h, h'⟩
theorem brn_t {x : Bool} {A B : Prop} (hx : x = true) (h : A) : Brn x A B := ⟨fun _ => h, fun e => absurd (hx.symm.trans e) (by simp)⟩
theorem brn_f {x : Bool} {A B : Prop} (hx : x = false) (h : B) : Brn x A B := ⟨fun e => absurd (hx.symm.trans e) (by simp), fun _ => h⟩
theorem ob {p A : Prop} (h : p) (h' : A) : Ob p A := ⟨h, h'⟩
theorem obr {k : IntKind} {r : Int} {K : SV → Prop} (h : inR k r) (h' : K (.int k r)) : ObR k r K := ⟨by rw [show k.wrap r = r from h]; exact h'⟩
theorem grow_same {X M : Mem} {A : Mem → Prop} (h : X.le M) (h' : A X) : Grow X M A := ⟨X, fun _ _ h => h, h, h'⟩
theorem on {α : Type} {x : Option α} {l : α} {k : α → Prop} (h : x = some l) (h' : k l) : onO x k := by subst h; exact h'
theorem atp {a : Option Addr} {b o : Nat} {k : Nat → Nat → Prop} (h : a = some ⟨b, o, none⟩) (h' : k b o) : atO a k := by subst h; exact h'
theorem CallsM.mono {P : Program} {f : Nat} {args : List Value} {M : Mem} {R R' : Value → Mem → Prop} (h : CallsM P f args M R) (hr : ∀ v M', R v M' → R' v M') : CallsM P f args M R' :=
  ⟨h.1, fun F w h1 h2 h3 => (h.2 F w h1 h2 h3).mono fun _ _ ⟨v, M', he, hk, hx⟩ => ⟨v, M', he, hr v M' hk, hx⟩⟩
theorem loop0 {σ : Type} {body : (Exit → St → Prop) → St → Prop} {Q : Exit → St → Prop} {s : St} (st : σ → St) (inv : σ → Prop) (μ : σ → Nat) (x0 : σ) (h0 : inv x0) (hs : (st x0).sub s)
    (h : ∀ x, inv x → body (thenQ Q fun s' => ∃ y, inv y ∧ μ y < μ x ∧ (st y).sub s') (st x)) : LoopVC0 body Q s :=
  ⟨fun m t => ∃ x, inv x ∧ μ x = m ∧ t = st x, ⟨_, _, ⟨x0, h0, rfl, rfl⟩, hs⟩, fun m t ⟨x, hx, hm, ht⟩ => by
    subst hm; subst ht
    have e : (fun s' => ∃ m' t', m' < μ x ∧ (∃ y, inv y ∧ μ y = m' ∧ t' = st y) ∧ t'.sub s') = fun s' => ∃ y, inv y ∧ μ y < μ x ∧ (st y).sub s' := by
      funext s'
      apply propext
      constructor
      · rintro ⟨m', t', h1, ⟨y, h2, rfl, rfl⟩, h3⟩; exact ⟨y, h2, h1, h3⟩
      · rintro ⟨y, h1, h2, h3⟩; exact ⟨_, _, h2, ⟨y, h1, rfl, rfl⟩, h3⟩
    rw [e]
    exact h x hx⟩
theorem loop {σ : Type} {body : (Exit → St → Prop) → St → Prop} {Q : Exit → St → Prop} {s : St} (st : σ → St) (inv : σ → Prop) (μ : σ → Nat) (x0 : σ) (h0 : inv x0) (hs : (st x0).sub s)
    (h : ∀ x, inv x → body (thenQ Q fun s' => ∃ y, inv y ∧ μ y < μ x ∧ (st y).sub s') (st x)) : LoopVC body Q s := .inl (loop0 st inv μ x0 h0 hs h)
theorem loopF {σ : Type} {body : (Exit → St → Prop) → St → Prop} {Q : Exit → St → Prop} {fr0 : List (Nat × SV)} {bx0 : List BE} {M0 : Mem} (keys : List Nat) (fr : σ → List (Nat × SV)) (bx : σ → List BE) (mem : σ → Mem) (inv : σ → Prop) (μ : σ → Nat) (x0 : σ) (h0 : inv x0)
    (hs : St.sub ⟨fr x0 ++ drops keys fr0, bx x0, mem x0⟩ ⟨fr0, bx0, M0⟩)
    (h : ∀ x, inv x → body (thenQ Q fun s' => ∃ y, inv y ∧ μ y < μ x ∧ St.sub ⟨fr y ++ drops keys fr0, bx y, mem y⟩ s') ⟨fr x ++ drops keys fr0, bx x, mem x⟩) : LoopVC body Q ⟨fr0, bx0, M0⟩ :=
  loop (fun x => ⟨fr x ++ drops keys fr0, bx x, mem x⟩) inv μ x0 h0 hs h
theorem loopQ {σ : Type} {body : (Exit → St → Prop) → St → Prop} {Q : Exit → St → Prop} {fr0 : List (Nat × SV)} {bx0 : List BE} {M0 : Mem} (keys : List Nat) (fr : σ → List (Nat × SV)) (inv : σ → Prop) (μ : σ → Nat) (x0 : σ) (h0 : inv x0)
    (hs : St.sub ⟨fr x0 ++ drops keys fr0, bx0, M0⟩ ⟨fr0, bx0, M0⟩)
    (h : ∀ x, inv x → body (thenQ Q fun s' => ∃ y, inv y ∧ μ y < μ x ∧ St.sub ⟨fr y ++ drops keys fr0, bx0, M0⟩ s') ⟨fr x ++ drops keys fr0, bx0, M0⟩) : LoopVC body Q ⟨fr0, bx0, M0⟩ :=
  loop (fun x => ⟨fr x ++ drops keys fr0, bx0, M0⟩) inv μ x0 h0 hs h
theorem app {E : TypeId} {size bytes : Nat} {a : Option Addr} {n c m : Nat} {news : List Value} {M : Mem} {k : Option Addr → Nat → Mem → Prop} (M0 : Mem) (L : List Value) (hown : Own M0 E size a n c L M)
    (h1 : (n + m) * bytes ≤ 140737488355328) (h2 : n + m ≤ maxLen) (h3 : ∀ u ∈ news, u.oneCell' = true) (hk : ∀ a' c' M', Own M0 E size a' (n + m) c' (L ++ news) M' → k a' c' M') : AppVC E size bytes a n c m news M k :=
  ⟨h1, h2, h3, .inl ⟨M0, L, hown, fun a' c' M' _ ho => hk a' c' M' ho⟩⟩
theorem srcv {M : Mem} {size : Nat} {a : Option Addr} {n : Nat} {k : List Value → Prop} {vs : List Value} (h : SrcOk M size a n vs) (hk : k vs) : SrcVC M size a n k := ⟨vs, h, hk⟩
theorem strv {M : Mem} {a : Option Addr} {n : Nat} {k : SV → Prop} {bs : List UInt8} (h : SrcOk M 1 a n (bs.map byteV)) (hk : k (.c (.v (.string ⟨bs.toArray⟩)))) : StrVC M a n k := ⟨bs, h, hk⟩
theorem new {M : Mem} {k : Nat → Prop} (h : ∀ b, M b = none → k b) : New M k := h
theorem Mem.le_setCells {M : Mem} {b : Nat} {E : TypeId} {l : List Value} (h : M b = none) : M.le (M.setCells b E l) := fun c o hc => by
  have hne : c ≠ b := fun e => by subst e; rw [h] at hc; cases hc
  simpa [Mem.setCells, Mem.upd_ne _ _ hne] using hc
theorem Own.none (M : Mem) (E : TypeId) (size : Nat) : Own M E size none 0 0 [] M := ⟨by simp, Nat.le_refl _, .inl ⟨rfl, rfl, rfl⟩⟩
theorem Own.lit {M : Mem} {b : Nat} (h : M b = Option.none) (E : TypeId) (size n : Nat) (L : List Value) (hl : L.length = n * size) : Own M E size (some ⟨b, 0, Option.none⟩) n n L (M.setCells b E L) :=
  ⟨hl, Nat.le_refl _, .inr ⟨b, L, rfl, h, rfl, hl, by rw [List.take_of_length_le (by omega)]⟩⟩
theorem Own.base {M0 : Mem} {E : TypeId} {size : Nat} {a : Option Addr} {n c : Nat} {L : List Value} {M : Mem} (h : Own M0 E size a n c L M) : M0.le M := by
  obtain ⟨_, _, ⟨_, _, rfl⟩ | ⟨b, cs, _, hb, rfl, _, _⟩⟩ := h
  · exact Mem.le_refl _
  · exact Mem.le_setCells hb
theorem Own.src {M0 : Mem} {E : TypeId} {size : Nat} {a : Option Addr} {n c : Nat} {L : List Value} {M : Mem} (h : Own M0 E size a n c L M) : SrcOk M size a n L := by
  obtain ⟨hl, hc, ⟨rfl, rfl, rfl⟩ | ⟨b, cs, rfl, hb, rfl, hcl, ht⟩⟩ := h
  · refine ⟨hl, .inl ?_⟩
    have : n = 0 := by omega
    subst this
    simpa using hl
  · refine ⟨hl, .inr ⟨b, 0, rfl, ?_⟩⟩
    have : n * size ≤ c * size := Nat.mul_le_mul_right _ hc
    simp only [Mem.row, Mem.setCells, Mem.upd_same]
    rw [if_pos (by simp; omega)]
    simp [ht]
theorem Mem.row_le {A M : Mem} (h : A.le M) {b o n : Nat} {vs : List Value} (hr : A.row b o n = some vs) : M.row b o n = some vs := by
  unfold Mem.row at hr ⊢
  cases hA : A b with
  | none => rw [hA] at hr; cases hr
  | some x => rw [hA] at hr; rw [h b x hA]; exact hr
theorem SrcOk.le {A M : Mem} (h : A.le M) {size : Nat} {a : Option Addr} {n : Nat} {vs : List Value} (hs : SrcOk A size a n vs) : SrcOk M size a n vs := by
  obtain ⟨hl, h1 | ⟨b, o, ha, h2⟩⟩ := hs
  · exact ⟨hl, .inl h1⟩
  · exact ⟨hl, .inr ⟨b, o, ha, Mem.row_le h h2⟩⟩
theorem SrcOk.elem {M : Mem} {s : Nat} {a : Option Addr} {n : Nat} {vs : List Value} (h : SrcOk M s a n vs) {j : Nat} (hj : j < n) (hs : 0 < s) :
    ∃ b o, a = some ⟨b, o, Option.none⟩ ∧ ∀ p m, p + m ≤ s → M.row b (o + j * s + p) m = some ((vs.drop (j * s + p)).take m) := by
  obtain ⟨hl, h⟩ := h
  have hle : (j + 1) * s ≤ n * s := Nat.mul_le_mul_right _ hj
  rw [Nat.succ_mul] at hle
  rcases h with rfl | ⟨b, o, rfl, hr⟩
  · simp at hl
    omega
  · refine ⟨b, o, rfl, fun p m hpm => ?_⟩
    unfold Mem.row at hr ⊢
    split at hr
    · rename_i c e fz hM
      split at hr
      · simp only [Option.some.injEq] at hr
        rw [if_pos (by omega), ← hr]
        congr 1
        rw [List.drop_take, List.drop_drop, List.take_take]
        rw [Nat.min_eq_left (by omega)]
        congr 2
        omega
      · cases hr
    · cases hr
theorem SrcOk.get {M : Mem} {a : Option Addr} {n : Nat} {vs : List Value} (h : SrcOk M 1 a n vs) {j : Nat} {v : Value} (hv : vs[j]? = some v) : ∃ b o, a = some ⟨b, o, Option.none⟩ ∧ M.row b (o + j * 1) 1 = some [v] := by
  have hl := h.1
  have hj := (List.getElem?_eq_some_iff.1 hv).1
  obtain ⟨b, o, h1, h2⟩ := h.elem (j := j) (by omega) (by omega)
  refine ⟨b, o, h1, ?_⟩
  have := h2 0 1 (by omega)
  simp only [Nat.add_zero] at this
  rw [List.getElem?_eq_getElem hj] at hv
  have hv := Option.some.inj hv
  rw [this, Nat.mul_one, List.drop_eq_getElem_cons hj, hv]
  simp
theorem inR_i64 {n : Int} (h : -9223372036854775808 ≤ n ∧ n ≤ 9223372036854775807) : inR .i64 n := by
  unfold inR
  rw [IntKind.wrap_i64]
  omega
end Go.Vm
namespace Go.Vm
theorem Mem.le_upd {M : Mem} {b : Nat} {x : Obj} (h : M b = none) : M.le (M.upd b x) := fun c o hc => by
  have hne : c ≠ b := fun e => by subst e; rw [h] at hc; cases hc
  simpa [Mem.upd, hne] using hc
def Mem.has (M : Mem) (b : Nat) (E : TypeId) (l : List Value) : Prop := M b = some (.cells l.toArray E (0, 0))
theorem Mem.has.cells {M : Mem} {b : Nat} {E : TypeId} {l : List Value} (h : M.has b E l) : M.cells b = some (E, l) := by unfold Mem.has at h; simp [Mem.cells, h]
theorem Mem.has.row {M : Mem} {b : Nat} {E : TypeId} {l : List Value} (h : M.has b E l) {o n : Nat} (hn : o + n ≤ l.length) : M.row b o n = some ((l.drop o).take n) := by unfold Mem.has at h; simp [Mem.row, h, hn]
theorem Mem.has.le {A M : Mem} (hle : A.le M) {b : Nat} {E : TypeId} {l : List Value} (h : A.has b E l) : M.has b E l := hle _ _ h
theorem Mem.has_setCells {M : Mem} {b : Nat} {E : TypeId} {l : List Value} : (M.setCells b E l).has b E l := by simp [Mem.has, Mem.setCells, Mem.upd]
def NewSl (M : Mem) (E : TypeId) (size : Nat) (a : Option Addr) (n c : Nat) (L : List Value) (M' : Mem) : Prop := ∃ M0, M.le M0 ∧ Own M0 E size a n c L M'
theorem Own.new {M : Mem} {E : TypeId} {size : Nat} {a : Option Addr} {n c : Nat} {L : List Value} {M' : Mem} (h : Own M E size a n c L M') : NewSl M E size a n c L M' := ⟨M, Mem.le_refl _, h⟩
theorem NewSl.none (M : Mem) (E : TypeId) (size : Nat) : NewSl M E size none 0 0 [] M := (Own.none M E size).new
theorem NewSl.lit {M : Mem} {b : Nat} (h : M b = Option.none) (E : TypeId) (size n : Nat) (L : List Value) (hl : L.length = n * size) : NewSl M E size (some ⟨b, 0, Option.none⟩) n n L (M.setCells b E L) := (Own.lit h E size n L hl).new
theorem NewSl.le {M : Mem} {E : TypeId} {size : Nat} {a : Option Addr} {n c : Nat} {L : List Value} {M' : Mem} (h : NewSl M E size a n c L M') : M.le M' := by
  obtain ⟨M0, h0, h1⟩ := h; exact Mem.le_trans h0 h1.base
theorem NewSl.src {M : Mem} {E : TypeId} {size : Nat} {a : Option Addr} {n c : Nat} {L : List Value} {M' : Mem} (h : NewSl M E size a n c L M') : SrcOk M' size a n L := by
  obtain ⟨M0, h0, h1⟩ := h; exact h1.src
theorem NewSl.mono {A M : Mem} {E : TypeId} {size : Nat} {a : Option Addr} {n c : Nat} {L : List Value} {M' : Mem} (h : NewSl M E size a n c L M') (hA : A.le M) : NewSl A E size a n c L M' := by
  obtain ⟨M0, h0, h1⟩ := h; exact ⟨M0, Mem.le_trans hA h0, h1⟩
theorem SrcOk.nil (M : Mem) (size : Nat) : SrcOk M size none 0 [] := ⟨by simp, .inl rfl⟩
theorem SrcOk.len {M : Mem} {size : Nat} {a : Option Addr} {n : Nat} {l : List Value} (h : SrcOk M size a n l) : l.length = n * size := h.1
def Mem.keep (S : Nat → Prop) (M M' : Mem) : Prop := ∀ b o, ¬ S b → M b = some o → M' b = some o
theorem Mem.keep_refl (S : Nat → Prop) (M : Mem) : Mem.keep S M M := fun _ _ _ h => h
theorem Mem.keep_of_le {S : Nat → Prop} {M M' : Mem} (h : M.le M') : Mem.keep S M M' := fun b o _ hb => h b o hb
theorem Mem.keep_trans {S : Nat → Prop} {A B C : Mem} (h : Mem.keep S A B) (h' : Mem.keep S B C) : Mem.keep S A C := fun b o hn hb => h' b o hn (h b o hn hb)
theorem Mem.keep_upd {S : Nat → Prop} (M : Mem) {b : Nat} (x : Obj) (hb : S b) : Mem.keep S M (M.upd b x) := fun c o hn hc => by
  have hne : c ≠ b := fun e => by subst e; exact hn hb
  simpa [Mem.upd, hne] using hc
theorem Mem.keep.le {S : Nat → Prop} {M0 M M' : Mem} (h : Mem.keep S M M') (h0 : M0.le M) (hS : ∀ b, S b → M0 b = none) : M0.le M' := fun b o hb => h b o (fun hs => by rw [hS b hs] at hb; cases hb) (h0 b o hb)
end Go.Vm
namespace Go.Vm
theorem SrcOk.at {α : Type} {M : Mem} {a : Option Addr} {n : Nat} {l : List α} {f : α → Value} (h : SrcOk M 1 a n (l.map f)) {i : Nat} (hi : i < n) :
    ∃ (hl : i < l.length) (b o : Nat), a = some ⟨b, o, Option.none⟩ ∧ M.row b (o + i * 1) 1 = some [f l[i]] := by
  have hl : l.length = n := by simpa using h.1
  obtain ⟨b, o, h1, h2⟩ := h.get (j := i) (v := f (l[i]'(by omega))) (by simp [List.getElem?_eq_getElem (show i < l.length by omega)])
  exact ⟨by omega, b, o, h1, h2⟩
theorem SrcOk.maplen {α : Type} {M : Mem} {a : Option Addr} {n : Nat} {l : List α} {f : α → Value} (h : SrcOk M 1 a n (l.map f)) : l.length = n := by simpa using h.1
end Go.Vm
namespace Go.Vm
theorem newSl_iff {M : Mem} {E : TypeId} {s : Nat} {a : Option Addr} {n c : Nat} {L : List Value} {M' : Mem} :
    NewSl M E s a n c L M' ↔ M.le M' ∧ L.length = n * s ∧ n ≤ c ∧ ((a = Option.none ∧ c = 0) ∨ ∃ b cs, a = some ⟨b, 0, Option.none⟩ ∧ M b = Option.none ∧ M'.has b E cs ∧ cs.length = c * s ∧ cs.take (n * s) = L) := by
  constructor
  · intro h
    refine ⟨h.le, ?_⟩
    obtain ⟨M0, h0, h1, h2, h3⟩ := h
    refine ⟨h1, h2, ?_⟩
    rcases h3 with ⟨ha, hc, _⟩ | ⟨b, cs, ha, hb, rfl, hl, ht⟩
    · exact .inl ⟨ha, hc⟩
    · refine .inr ⟨b, cs, ha, ?_, Mem.has_setCells, hl, ht⟩
      cases hx : M b with
      | none => rfl
      | some x => rw [h0 b x hx] at hb; cases hb
  · rintro ⟨hle, h1, h2, ⟨ha, hc⟩ | ⟨b, cs, ha, hb, hh, hl, ht⟩⟩
    · exact ⟨M', hle, h1, h2, .inl ⟨ha, hc, rfl⟩⟩
    · refine ⟨fun x => if x = b then none else M' x, fun x o hx => ?_, h1, h2, .inr ⟨b, cs, ha, by simp, ?_, hl, ht⟩⟩
      · have hne : x ≠ b := fun e => by subst e; rw [hb] at hx; cases hx
        simp only [if_neg hne]
        exact hle x o hx
      · funext x
        simp only [Mem.setCells, Mem.upd]
        split
        · rename_i e; subst e; exact hh
        · rfl
theorem NewSl.up {M : Mem} {E : TypeId} {s : Nat} {a : Option Addr} {n c : Nat} {L : List Value} {M1 M2 : Mem} (h : NewSl M E s a n c L M1) (hle : M1.le M2) : NewSl M E s a n c L M2 := by
  rw [newSl_iff] at h ⊢
  obtain ⟨h0, h1, h2, h3⟩ := h
  exact ⟨Mem.le_trans h0 hle, h1, h2, h3.imp id fun ⟨b, cs, ha, hb, hh, hr⟩ => ⟨b, cs, ha, hb, hle _ _ hh, hr⟩⟩
theorem NewSl.keep {M : Mem} {E : TypeId} {s : Nat} {a : Option Addr} {n c : Nat} {L : List Value} {M1 M2 : Mem} {S : Nat → Prop} (h : NewSl M E s a n c L M1) (hk : Mem.keep S M1 M2) (hS : ∀ b, S b → M b = Option.none) (ha : ∀ p, a = some p → ¬ S p.block) : NewSl M E s a n c L M2 := by
  rw [newSl_iff] at h ⊢
  obtain ⟨h0, h1, h2, h3⟩ := h
  exact ⟨hk.le h0 hS, h1, h2, h3.imp id fun ⟨b, cs, hab, hb, hh, hr⟩ => ⟨b, cs, hab, hb, hk _ _ (ha _ hab) hh, hr⟩⟩
end Go.Vm
namespace Go.Vm
def Mem.empty : Mem := fun _ => none
theorem Mem.empty_le (M : Mem) : Mem.empty.le M := fun _ _ h => by cases h
end Go.Vm
namespace Go.Vm
theorem Mem.has.c1 {M : Mem} {b : Nat} {E : TypeId} {l : List Value} (h : M.has b E l) {o : Nat} {v : Value} (hv : l[o]? = some v) : M.row b o 1 = some [v] := by
  have hl := (List.getElem?_eq_some_iff.1 hv).1
  rw [h.row (by omega), List.drop_eq_getElem_cons hl]
  have := (List.getElem?_eq_some_iff.1 hv).2
  simp [this]
end Go.Vm
namespace Go.Vm
theorem NewSl.block {M : Mem} {E : TypeId} {s : Nat} {a : Option Addr} {n c : Nat} {L : List Value} {M' : Mem} (h : NewSl M E s a n c L M') {q : Addr} (ha : a = some q) : M q.block = Option.none ∧ ∃ cs, M'.has q.block E cs := by
  rw [newSl_iff] at h
  obtain ⟨_, _, _, ⟨h3, _⟩ | ⟨b, cs, hab, hb, hh, _⟩⟩ := h
  · rw [h3] at ha; cases ha
  · rw [hab] at ha; cases ha; exact ⟨hb, cs, hh⟩
theorem Mem.has.inj {M : Mem} {b : Nat} {E E' : TypeId} {l l' : List Value} (h : M.has b E l) (h' : M.has b E' l') : E = E' ∧ l = l' := by
  unfold Mem.has at h h'; rw [h] at h'; simp at h'; exact ⟨h'.2, h'.1⟩
def Wr (M : Mem) (E : TypeId) (s : Nat) (a : Option Addr) (n c : Nat) (L : List Value) : Prop :=
  L.length = n * s ∧ n ≤ c ∧ ((a = Option.none ∧ c = 0) ∨ ∃ b cs, a = some ⟨b, 0, Option.none⟩ ∧ M.has b E cs ∧ cs.length = c * s ∧ cs.take (n * s) = L)
theorem NewSl.wr {M : Mem} {E : TypeId} {s : Nat} {a : Option Addr} {n c : Nat} {L : List Value} {M' : Mem} (h : NewSl M E s a n c L M') : Wr M' E s a n c L := by
  rw [newSl_iff] at h
  obtain ⟨_, h1, h2, h3⟩ := h
  exact ⟨h1, h2, h3.imp id fun ⟨b, cs, ha, _, hr⟩ => ⟨b, cs, ha, hr⟩⟩
theorem Wr.mono {M M' : Mem} {E : TypeId} {s : Nat} {a : Option Addr} {n c : Nat} {L : List Value} (h : Wr M E s a n c L) (hk : ∀ p o, a = some p → M p.block = some o → M' p.block = some o) : Wr M' E s a n c L := by
  obtain ⟨h1, h2, h3⟩ := h
  exact ⟨h1, h2, h3.imp id fun ⟨b, cs, ha, hh, hr⟩ => ⟨b, cs, ha, hk _ _ ha hh, hr⟩⟩
theorem Wr.le {M M' : Mem} {E : TypeId} {s : Nat} {a : Option Addr} {n c : Nat} {L : List Value} (h : Wr M E s a n c L) (hle : M.le M') : Wr M' E s a n c L := h.mono fun _ _ _ => hle _ _
def Elems {α : Type} (M : Mem) (s : Nat) (a : Option Addr) (n : Nat) (R : List Value → α → Prop) (l : List α) : Prop :=
  ∃ css : List (List Value), SrcOk M s a n css.flatten ∧ css.length = n ∧ l.length = n ∧ (∀ cs ∈ css, cs.length = s) ∧ ∀ (i : Nat) cs x, css[i]? = some cs → l[i]? = some x → R cs x
theorem Elems.len {α : Type} {M : Mem} {s : Nat} {a : Option Addr} {n : Nat} {R : List Value → α → Prop} {l : List α} (h : Elems M s a n R l) : l.length = n := by
  obtain ⟨_, _, _, h, _⟩ := h; exact h
theorem Elems.imp {α : Type} {M M' : Mem} {s : Nat} {a : Option Addr} {n : Nat} {R R' : List Value → α → Prop} {l : List α} (h : Elems M s a n R l) (hle : M.le M') (hR : ∀ cs x, x ∈ l → R cs x → R' cs x) : Elems M' s a n R' l := by
  obtain ⟨css, h1, h2, h3, h4, h5⟩ := h
  exact ⟨css, h1.le hle, h2, h3, h4, fun i cs x hi hx => hR _ _ (List.mem_of_getElem? hx) (h5 i cs x hi hx)⟩
theorem flatten_chunk {α : Type} {s : Nat} : ∀ {css : List (List α)} (_ : ∀ cs ∈ css, cs.length = s) {i : Nat} {cs : List α} (_ : css[i]? = some cs), (css.flatten.drop (i * s)).take s = cs
  | [], _, i, cs, hi => by simp at hi
  | c :: r, h, 0, cs, hi => by
    simp at hi; subst hi
    have : c.length = s := h c (by simp)
    simp [← this]
  | c :: r, h, i + 1, cs, hi => by
    have hc : c.length = s := h c (by simp)
    simp only [List.flatten_cons]
    rw [Nat.succ_mul, Nat.add_comm, ← List.drop_drop, show (c ++ r.flatten).drop s = r.flatten by rw [← hc]; simp]
    exact flatten_chunk (fun cs hcs => h cs (List.mem_cons_of_mem _ hcs)) (by simpa using hi)
theorem Elems.at {α : Type} {M : Mem} {s : Nat} {a : Option Addr} {n : Nat} {R : List Value → α → Prop} {l : List α} (h : Elems M s a n R l) (hs : 0 < s) {i : Nat} (hi : i < n) :
    ∃ (hl : i < l.length) (b o : Nat) (cs : List Value), a = some ⟨b, o, Option.none⟩ ∧ (∀ p m, p + m ≤ s → M.row b (o + i * s + p) m = some ((cs.drop p).take m)) ∧ M.row b (o + i * s) s = some cs ∧ cs.length = s ∧ R cs l[i] := by
  obtain ⟨css, h1, h2, h3, h4, h5⟩ := h
  obtain ⟨b, o, ha, hr⟩ := h1.elem hi hs
  have hcs : css[i]? = some (css[i]'(by omega)) := List.getElem?_eq_getElem (by omega)
  have hlen : (css[i]'(by omega)).length = s := h4 _ (List.getElem_mem _)
  have key : ∀ p m, p + m ≤ s → M.row b (o + i * s + p) m = some (((css[i]'(by omega)).drop p).take m) := by
    intro p m hpm
    rw [hr p m hpm, ← flatten_chunk h4 hcs, List.drop_take, List.drop_drop, List.take_take]
    congr 2
    omega
  refine ⟨by omega, b, o, css[i]'(by omega), ha, key, ?_, hlen, h5 i _ _ hcs (List.getElem?_eq_getElem (by omega))⟩
  have := key 0 s (by omega)
  rw [Nat.add_zero] at this
  rw [this, List.drop_zero, List.take_of_length_le (by omega)]
theorem Elems.nil {α : Type} (M : Mem) (s : Nat) (R : List Value → α → Prop) : Elems M s Option.none 0 R [] := ⟨[], SrcOk.nil M s, rfl, rfl, by simp, by simp⟩
def NewEls {α : Type} (M : Mem) (E : TypeId) (s : Nat) (a : Option Addr) (n c : Nat) (R : List Value → α → Prop) (l : List α) (M' : Mem) : Prop :=
  ∃ css : List (List Value), NewSl M E s a n c css.flatten M' ∧ css.length = n ∧ l.length = n ∧ (∀ cs ∈ css, cs.length = s) ∧ ∀ (i : Nat) cs x, css[i]? = some cs → l[i]? = some x → R cs x
theorem NewEls.le {α : Type} {M : Mem} {E : TypeId} {s : Nat} {a : Option Addr} {n c : Nat} {R : List Value → α → Prop} {l : List α} {M' : Mem} (h : NewEls M E s a n c R l M') : M.le M' := by
  obtain ⟨css, h1, hr⟩ := h; exact h1.le
theorem NewEls.block {α : Type} {M : Mem} {E : TypeId} {s : Nat} {a : Option Addr} {n c : Nat} {R : List Value → α → Prop} {l : List α} {M' : Mem} (h : NewEls M E s a n c R l M') {q : Addr} (ha : a = some q) : M q.block = Option.none ∧ ∃ cs, M'.has q.block E cs := by
  obtain ⟨css, h1, _⟩ := h; exact h1.block ha
theorem NewEls.nil {α : Type} (M : Mem) (E : TypeId) (s : Nat) (R : List Value → α → Prop) : NewEls M E s Option.none 0 0 R [] M := ⟨[], NewSl.none M E s, rfl, rfl, by simp, by simp⟩
theorem NewEls.imp {α : Type} {M : Mem} {E : TypeId} {s : Nat} {a : Option Addr} {n c : Nat} {R R' : List Value → α → Prop} {l : List α} {M' : Mem} (h : NewEls M E s a n c R l M') (hR : ∀ cs x, x ∈ l → R cs x → R' cs x) : NewEls M E s a n c R' l M' := by
  obtain ⟨css, h1, h2, h3, h4, h5⟩ := h
  exact ⟨css, h1, h2, h3, h4, fun i cs x hi hx => hR _ _ (List.mem_of_getElem? hx) (h5 i cs x hi hx)⟩
theorem NewEls.up {α : Type} {M : Mem} {E : TypeId} {s : Nat} {a : Option Addr} {n c : Nat} {R : List Value → α → Prop} {l : List α} {M1 M2 : Mem} (h : NewEls M E s a n c R l M1) (hle : M1.le M2) : NewEls M E s a n c R l M2 := by
  obtain ⟨css, h1, hr⟩ := h; exact ⟨css, h1.up hle, hr⟩
theorem NewEls.keep {α : Type} {M : Mem} {E : TypeId} {s : Nat} {a : Option Addr} {n c : Nat} {R : List Value → α → Prop} {l : List α} {M1 M2 : Mem} {S : Nat → Prop} (h : NewEls M E s a n c R l M1) (hk : Mem.keep S M1 M2) (hS : ∀ b, S b → M b = Option.none) (ha : ∀ p, a = some p → ¬ S p.block) : NewEls M E s a n c R l M2 := by
  obtain ⟨css, h1, hr⟩ := h; exact ⟨css, h1.keep hk hS ha, hr⟩
theorem NewEls.mono {α : Type} {A M : Mem} {E : TypeId} {s : Nat} {a : Option Addr} {n c : Nat} {R : List Value → α → Prop} {l : List α} {M' : Mem} (h : NewEls M E s a n c R l M') (hA : A.le M) : NewEls A E s a n c R l M' := by
  obtain ⟨css, h1, hr⟩ := h; exact ⟨css, h1.mono hA, hr⟩
def blk (a : Option Addr) : Nat → Prop := fun x => ∃ q, a = some q ∧ q.block = x
theorem appK {E : TypeId} {size bytes : Nat} {a : Option Addr} {n c m : Nat} {news : List Value} {M : Mem} {k : Option Addr → Nat → Mem → Prop} (M0 : Mem) (L : List Value) (hown : NewSl M0 E size a n c L M)
    (h1 : (n + m) * bytes ≤ 140737488355328) (h2 : n + m ≤ maxLen) (h3 : ∀ u ∈ news, u.oneCell' = true) (hk : ∀ a' c' M', NewSl M0 E size a' (n + m) c' (L ++ news) M' → Mem.keep (blk a) M M' → k a' c' M') : AppVC E size bytes a n c m news M k := by
  rw [newSl_iff] at hown
  obtain ⟨h0, h4, h5, ⟨ha, hc⟩ | ⟨b, cs, ha, hb, hh, hl, ht⟩⟩ := hown
  · refine app M L ⟨h4, h5, .inl ⟨ha, hc, rfl⟩⟩ h1 h2 h3 fun a' c' M' ho => hk a' c' M' ⟨M, h0, ho⟩ (Mem.keep_of_le ho.base)
  · refine app (fun x => if x = b then Option.none else M x) L ⟨h4, h5, .inr ⟨b, cs, ha, by simp, ?_, hl, ht⟩⟩ h1 h2 h3 fun a' c' M' ho => hk a' c' M' ⟨_, ?_, ho⟩ ?_
    · funext x
      simp only [Mem.setCells, Mem.upd]
      split
      · rename_i e; subst e; exact hh
      · rfl
    · intro x o hx
      have hne : x ≠ b := fun e => by subst e; rw [hb] at hx; cases hx
      simp only [if_neg hne]
      exact h0 x o hx
    · intro x o hn hx
      have hne : x ≠ b := fun e => hn ⟨_, ha, e.symm⟩
      exact ho.base x o (by simp only [if_neg hne]; exact hx)
theorem appE {α : Type} {E : TypeId} {s bytes : Nat} {a : Option Addr} {n c : Nat} {news : List Value} {M : Mem} {k : Option Addr → Nat → Mem → Prop} {R : List Value → α → Prop} {l : List α} (M0 : Mem) (hown : NewEls M0 E s a n c R l M) (x : α) (hx : R news x)
    (hl : news.length = s) (h1 : (n + 1) * bytes ≤ 140737488355328) (h2 : n + 1 ≤ maxLen) (h3 : ∀ u ∈ news, u.oneCell' = true) (hk : ∀ a' c' M', NewEls M0 E s a' (n + 1) c' R (l ++ [x]) M' → Mem.keep (blk a) M M' → k a' c' M') : AppVC E s bytes a n c 1 news M k := by
  obtain ⟨css, h0, h4, h5, h6, h7⟩ := hown
  refine appK M0 _ h0 h1 h2 h3 fun a' c' M' hn hkp => hk a' c' M' ⟨css ++ [news], by simpa using hn, by simp [h4], by simp [h5], ?_, ?_⟩ hkp
  · intro cs hcs
    rcases List.mem_append.1 hcs with h | h
    · exact h6 cs h
    · simp at h; rw [h, hl]
  · intro i cs y hi hy
    by_cases hlt : i < css.length
    · rw [List.getElem?_append_left hlt] at hi
      rw [List.getElem?_append_left (by omega)] at hy
      exact h7 i cs y hi hy
    · rw [List.getElem?_append_right (by omega)] at hi
      rw [List.getElem?_append_right (by omega)] at hy
      have e : i - css.length = 0 := by
        have := (List.getElem?_eq_some_iff.1 hi).1; simp at this; omega
      rw [e] at hi
      rw [show i - l.length = 0 by omega] at hy
      simp at hi hy
      rw [← hi, ← hy]; exact hx
end Go.Vm
namespace Go.Vm
open Classical in
noncomputable def Mem.minus (M : Mem) (S : Nat → Prop) : Mem := fun x => if S x then none else M x
theorem Mem.minus_le (M : Mem) (S : Nat → Prop) : (M.minus S).le M := fun b o h => by unfold Mem.minus at h; split at h; cases h; exact h
theorem Mem.keep_minus {M M' : Mem} {S : Nat → Prop} : Mem.keep S M M' ↔ (M.minus S).le M' := by
  constructor
  · intro h b o hb
    unfold Mem.minus at hb; split at hb
    · cases hb
    · exact h b o ‹_› hb
  · intro h b o hn hb
    exact h b o (by unfold Mem.minus; rw [if_neg hn]; exact hb)
theorem Mem.le_minus {M0 M : Mem} {S : Nat → Prop} (h : M0.le M) (hS : ∀ b, S b → M0 b = none) : M0.le (M.minus S) := fun b o hb => by
  unfold Mem.minus; rw [if_neg (fun hs => by rw [hS b hs] at hb; cases hb)]; exact h b o hb
theorem Mem.minus_in {M : Mem} {S : Nat → Prop} {b : Nat} (h : S b) : M.minus S b = none := by unfold Mem.minus; rw [if_pos h]
end Go.Vm
namespace Go.Vm
theorem Wr.block {M : Mem} {E : TypeId} {s : Nat} {a : Option Addr} {n c : Nat} {L : List Value} (h : Wr M E s a n c L) {q : Addr} (ha : a = some q) : ∃ cs, M.has q.block E cs := by
  obtain ⟨_, _, ⟨h3, _⟩ | ⟨b, cs, hab, hh, _⟩⟩ := h
  · rw [h3] at ha; cases ha
  · rw [hab] at ha; cases ha; exact ⟨cs, hh⟩
end Go.Vm
namespace Go.Vm
theorem Mem.row_minus {M : Mem} {S : Nat → Prop} {b o n : Nat} {vs : List Value} (h : M.row b o n = some vs) (hb : ¬ S b) : (M.minus S).row b o n = some vs := by
  unfold Mem.row at h ⊢
  have : M.minus S b = M b := by unfold Mem.minus; rw [if_neg hb]
  rw [this]; exact h
theorem SrcOk.minus {M : Mem} {S : Nat → Prop} {size : Nat} {a : Option Addr} {n : Nat} {l : List Value} (h : SrcOk M size a n l) (hb : ∀ q, a = some q → ¬ S q.block) : SrcOk (M.minus S) size a n l := by
  obtain ⟨hl, h1 | ⟨c, o, ha, h2⟩⟩ := h
  · exact ⟨hl, .inl h1⟩
  · exact ⟨hl, .inr ⟨c, o, ha, Mem.row_minus h2 (hb _ ha)⟩⟩
end Go.Vm
namespace Go.Vm
theorem Mem.row_obj {M : Mem} {b : Nat} {E : TypeId} {l : List Value} {fz : Nat × Nat} {o n : Nat} (hb : M b = some (.cells l.toArray E fz)) (h : o + n ≤ l.length) : M.row b o n = some ((l.drop o).take n) := by
  simp [Mem.row, hb, h]
end Go.Vm
namespace Go.Vm
theorem Mem.has.minus {M : Mem} {S : Nat → Prop} {b : Nat} {E : TypeId} {l : List Value} (h : M.has b E l) (hb : ¬ S b) : (M.minus S).has b E l := by
  unfold Mem.has Mem.minus at *; rw [if_neg hb]; exact h
end Go.Vm
namespace Go.Vm
end Go.Vm
namespace Go.Vm
end Go.Vm
namespace Go.Vm
end Go.Vm
namespace Go.Vm
theorem bytes_one (l : List UInt8) : ∀ u ∈ l.map byteV, u.oneCell' = true := fun u hu => by
  obtain ⟨b, _, rfl⟩ := List.mem_map.1 hu; rfl
theorem zR {A B : Prop} (a : A) (k : A → B := by intro a; (repeat' ((conv => whnf); first | refine ⟨?_, True.intro⟩ | refine Go.Vm.brn_t rfl ?_ | refine Go.Vm.brn_f rfl ?_ | refine Go.Vm.ob rfl ?_ | refine Go.Vm.ob (by decide) ?_ | refine Go.Vm.obr rfl ?_ | refine Go.Vm.grow_same (Go.Vm.Mem.le_refl _) ?_ | refine Go.Vm.ob (Go.Vm.Mem.le_refl _) ?_ | refine ⟨_, Go.Vm.Mem.le_refl _, ?_⟩ | fail)); exact a) : B := k a
theorem zX {A B : Prop} (a : A) (k : A → B := by intro a; (repeat' ((conv => whnf); first | refine ⟨?_, True.intro⟩ | refine Go.Vm.brn_t rfl ?_ | refine Go.Vm.brn_f rfl ?_ | refine Go.Vm.ob rfl ?_ | refine Go.Vm.ob (by decide) ?_ | refine Go.Vm.obr rfl ?_ | refine Go.Vm.grow_same (Go.Vm.Mem.le_refl _) ?_ | refine Go.Vm.ob (Go.Vm.Mem.le_refl _) ?_ | fail)); exact a) : B := k a
theorem zT {p A B : Prop} (h : p) (a : A) (k : p → A → B := by intro h a; (repeat' ((conv => whnf); first | refine Go.Vm.ob rfl ?_ | refine Go.Vm.grow_same h ?_ | refine Go.Vm.ob h ?_ | refine ⟨?_, True.intro⟩ | fail)); exact a) : B := k h a
theorem zS {t s : St} (h1 : frSub s.fr t.fr := by repeat' first | exact True.intro | refine ⟨rfl, ?_⟩) (h2 : bxSub s.bx t.bx := by repeat' first | exact True.intro | refine ⟨rfl, ?_⟩) (h3 : t.M.le s.M := by exact Go.Vm.Mem.le_refl _) (h4 : t.wf = true := by rfl) : t.sub s := ⟨h1, h2, h3, h4⟩
end Go.Vm
